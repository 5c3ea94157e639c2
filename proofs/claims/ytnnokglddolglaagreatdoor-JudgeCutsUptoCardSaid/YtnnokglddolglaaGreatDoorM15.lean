/- Lemmas for the last texts. -/
import Derived.Test.YtnnokglddolglaaGreatDoorM14
import Derived.Lib.SliceRun
set_option maxHeartbeats 1600000
set_option maxRecDepth 100000
namespace Go.Proofs.YtnnokglddolglaaGreatDoor
open Go.RowKit Go.Proofs.Tryz
theorem zzW(s:ByteArray)(W:World):Calls prog 178 #[.string s] W (zav (decide (40<s.size)) W):=by
 by_cases h:40<s.size
 have e:decide (40<s.size)=true:=Qu h
 rotate_left
 have e:decide (40<s.size)=false:=Qq h
 all_goals
  rw[e];clear e
  go_in
  go_wp2;go_ret;exact⟨by simp;omega,Qj _ _⟩
def zcy(ws:List ByteArray):Nat:=
 if 30<ws.length then 2 else if anyN (λj=>decide (40<(ws.getD j ByteArray.empty).size)) ws.length then 2 else if ws.length=0 then 1 else if Lib.containsS ws ByteArray.empty then 1 else 0
theorem ziX(A:Option Addr)(c n:Nat)(ws:List ByteArray)(w:World)(m:ws.length=n)(h:Sl w w.heap.size 1 A n (ws.map Value.string)):
 Calls prog 142 #[.slice A n c] w λe w'=>e=jC (jA (zcy ws:Nat))/\w w':=by
 by_cases f:30<n
 ·have g:Hid (zcy ws=2):=by unfold zcy;rw[Qg (by omega)];exact hIx rfl
  clear h
  go_in
  go_wp2;go_ret;exact⟨by rw[g.out];rfl,Qj _ _⟩
 ·have k:∀j,j<n->(ws.map Value.string)[j]? = some (.string (ws.getD j ByteArray.empty)):=λj o=>by
   rw[ZM,Qo,Qd (by omega)];rfl
  have g:=hIx (zj5 178 #[] (enters_of func178 (by kernel_rfl) rfl) A n c (ws.map Value.string) (λj=>.string (ws.getD j ByteArray.empty)) (λj=>decide (40<(ws.getD j ByteArray.empty).size)) w h (by omega) k (λW j _ _=>zzW _ W))
  by_cases a:anyN (λj=>decide (40<(ws.getD j ByteArray.empty).size)) n=true
  ·have i:Hid (zcy ws=2):=by unfold zcy;rw[m,Qe f,Qg a];exact hIx rfl
   rw[a]at g;clear h k a
   go_in
   go_wp2_with (go_at_call 66;refine g.out.mono ?_;rintro e d ⟨rfl,hb⟩);go_ret;exact⟨by rw[i.out];rfl,hb⟩
  ·have hl:anyN (λj=>decide (40<(ws.getD j ByteArray.empty).size)) n=false:=by simpa using a
   rw[hl]at g
   by_cases l:n=0
   ·have i:Hid (zcy ws=1):=by unfold zcy;rw[m,Qe f,Qe a,Qg l];exact hIx rfl
    subst l;clear h k a hl
    go_in
    go_wp2_with (go_at_call 66;refine g.out.mono ?_;rintro e d ⟨rfl,hb⟩);go_ret;exact⟨by rw[i.out];rfl,hb⟩
   ·have p:Hid (∀d,w d->Calls prog 90 #[.slice A n c,.string ByteArray.empty] d λe w'=>e=jC (.bool (Lib.containsS ws ByteArray.empty))/\w'=d):=hIx λd hb=>by
     obtain⟨b,off,rfl,_,s⟩:=(h.below hb).src (by rw[Qh];omega)
     have:=slices_Contains_string b off n c ws ByteArray.empty d (by omega) (by omega) (λj o=>by
      rw[s j (by rw[Qh];omega),Zm,Qo,Qd o];rfl)
     rw[QF (by omega)]at this;exact this
    have i:Hid (zcy ws=if Lib.containsS ws ByteArray.empty then 1 else 0):=by unfold zcy;rw[m,Qe f,Qe a,Qe l];exact hIx rfl
    clear h k a hl;generalize r:Lib.containsS ws ByteArray.empty=q at p i;clear r;cases q
    all_goals
     go_in
     go_wp2_with (first|(go_at_call 66;refine g.out.mono ?_;rintro e d ⟨rfl,hb⟩)|(go_at_call 90;refine(p.out _ hb).mono ?_;rintro e w2 ⟨rfl,rfl⟩));go_ret;exact⟨by rw[i.out];rfl,hb⟩
theorem zgI(A:Option Addr)(c n:Nat)(ws:List ByteArray)(w:World)(b:ws.length=n)(h:Sl w w.heap.size 1 A n (ws.map Value.string))(f:zcy ws≠0):
 Calls prog 106 #[.slice A n c] w λe w'=>e=jC (.tuple #[jD 0 0,jA (zcy ws:Nat)])/\w w':=by
 have a:=hIx (ziX A c n ws w b h);generalize zcy ws=r at *;clear h
 go_in
 go_wp2_with (go_at_call 142;refine a.out.mono ?_;rintro e d ⟨rfl,hb⟩)
 go_ret2
 exact⟨rfl,hb⟩
theorem zyK:(prog.info? 3).map (λi=>(i.zero,i.size,i.bytes))=some (some (jA 0),1,8):=by kernel_rfl
theorem zqE(A:Option Addr)(n c:Nat)(xs:List Value)(w:World)(h:Sl w w.heap.size 1 A n xs)(h1:∀u∈xs,u.oneCell'=true)(F:n*8<=140737488355328):
 Calls prog 144 #[.slice A n c] w (zzQ 3 1 n xs w):=by
 obtain⟨B,C,l,p,r⟩:=ZG zyK;have t:=λ(w:World) (a:Option Addr) (n c:Nat)=>Lib.run_eql_slice_nil (P:=prog) w 31 3 a n c 0 0 underlying31
 cases A with
 |none=>
  have hl:=h.len
  have o:xs=[]:=by
   rcases Z7 xs.length with m|m
   ·exact QA m
   ·obtain⟨b,off,e,_⟩:=h.src m;cases e
  subst o;have s:n=0:=by simp at hl;omega
  subst s
  go_in
  go_wp2;go_ret;exact⟨_,rfl,ZU w _ 3 1,Qj _ _⟩
 |some q=>
  have f:∀j u,xs[j]? = some u->w.cell? (q.add j)=some u:=λj u i=>by
   have v:=(Qw.1 i).1;obtain⟨b,off,e,_,D⟩:=h.src (by omega);injection e with e
   subst e;rw[Go.WideShapes.add_plain,D j v,<-i,Qd v]
  have d:∀j u,xs[j]? = some u->(w.alloc (.cells #[] 3)).cell? (q.add j)=some u:=λj u i=>zaa WaL (f j u i)
  have z:=hIx d;have hl:=h.len;clear h f d
  go_in
  go_wp2_with (at_builtin;refine wpList_append_own _ rfl _ _ 31 rfl w.heap.size 3 B (jA 0) 1 8 underlying31 C l p r rfl (by decide) (.slice w.heap.size 0 0) 0 [] rfl (XG w #[] 0 (Qc _) (by decide) (by simp)) q n c xs rfl hl z.out h1 (by unfold maxLen;omega) (by omega) (by simp) ?_;intro v' E g x _);go_ret;refine⟨_,rfl,by simpa using g,WaL.grown x (by simp) (λk y=>?_)⟩;simp[Value.ownBlock]at y;omega
structure zji(ws:List ByteArray):Prop where
 few:ws.length<=30
 some:0<ws.length
 short:∀w∈ws,w.size<=40
 full:∀w∈ws,w.size≠0
theorem zcr{ws:List ByteArray}(h:zcy ws=0):zji ws:=by
 unfold zcy at h
 split at h
 ·omega
 rename_i h1
 split at h
 ·omega
 rename_i h2
 split at h
 ·omega
 rename_i g
 split at h
 ·omega
 rename_i f;have b:anyN (λj=>decide (40<(ws.getD j ByteArray.empty).size)) ws.length=false:=by simpa using h2
 refine⟨by omega,by omega,λw a=>?_,λw a e=>?_⟩
 ·obtain⟨j,c,rfl⟩:=Xk a
  have:=(zek _ _).1 b j c;rw[Qo,Qd c]at this
  simpa using this
 ·have d:w=ByteArray.empty:=XT (Array.eq_empty_of_size_eq_zero e)
  subst d;exact f ((Lib.containsS_iff _ _).2 a)
structure TreeIs(w:World)(lo:Nat)(ws:List ByteArray)(g cap:Nat)(ns:List zaC)(ss:List jE)(ms:List zcG):Prop where
 lev:Lev (lstS ws) 40 ns ss
 few:ns.length<=400
 at_:∃lo2,lo<=lo2/\NodesAt (lstS ws) ss ns lo lo2 g cap ns.length ms w
def zvP(ws:List ByteArray)(w:World)(e:Ending)(w':World):Prop:=
 w w'/\((e=jC (.tuple #[jD 0 0,jA 2])/\Full (lstS ws))\/∃g cap c b a,e=jC (.tuple #[.slice (some ⟨g,0,none⟩) a.length cap,jA 0])/\TreeIs w' w.heap.size ws g cap c b a)
section
variable {ops:Array Oper} {rest:List Oper} {o:Oper} {a:Act} {Q:Exit->Act->World->Prop} {w:World}
theorem zkU(b:o.guard=none)(x y:Operand)(d:o.op=.makeSlice 31 x y)(base n g:Nat)(l:w.heap.size=g)(u:a.eval x=jA (n:Int))(s:a.eval y=jA (n:Int))(z:n<=1048576)(hb:base<=w.heap.size)
 (q:∀w',OwnG rowI w' base (.slice g n n) (List.replicate n 0)->w w'->g<w'.heap.size->wpList prog ops Q rest (a.put o.dst (.slice g n n)) w'):
 wpList prog ops Q (o::rest) a w:=by
 subst l;obtain⟨r,t,c,f,h⟩:=ZG rowI.info;have i:rowI.bytes=8:=rfl;refine wpList_make_full w b x y 31 d base 3 r (jA 0) 1 underlying31 t c f .i64 .i64 _ _ n u s rfl rfl (by rw[h,i];omega) (by unfold maxLen;omega) hb λw' h1 h2=>?_
 rw[Nat.mul_one]at h1;have e:(madeCells (jA 0).cells n).toList=List.replicate n (jA 0):=toList_madeCells_one (jA 0) n;rw[e]at h1
 have k:OwnG rowI w' base (.slice w.heap.size n n) (List.replicate n 0):=by
  unfold OwnG;rw[List.length_replicate]
  have:(List.replicate n 0).flatMap rowI.cells=List.replicate n (jA 0):=by
   have p:∀m:Nat,(List.replicate m 0).flatMap rowI.cells=List.replicate m (jA 0):=λm=>by
    induction m with
    |zero=>rfl
    |succ m ih=>rw[List.replicate_succ,QH,ih,List.replicate_succ];rfl
   exact p n
  rw[this];exact h1
 exact q w' k ⟨h2.os,h2.tape,h2.output,h2.size,λj v=>h2.block j v (by simp)⟩ (k.lt _ rfl).2
end
theorem zr8(ws:List ByteArray)(h:0<ws.length){w:World}{B c b a g:Nat}(hM:Mk w B c b a ws.length g 1 [(⟨0,0,0⟩,none,0,0)] [] (List.replicate ws.length 0)):zs9 w B c b a ws.length ws 0 g 1 [⟨0,0,0⟩] [[]] [] (List.replicate ws.length 0) where
 mkr:=hM
 lev:=zrf (by intro e;rw[lstS,List.map_eq_nil_iff]at e;rw[e]at h;exact absurd h (by simp))
 ats:=by have:=zvy (ws:=lstS ws);rwa[show (lstS ws).length=ws.length by rw[lstS,Qh]]at this
 next:=NextOk.start
 few:=by simp
theorem zuN{w a w2:World}{n:Nat}(f:w.heap.size<=a.heap.size)(h2:OwnG rowI w2 a.heap.size (.slice (a.heap.size+1+1:) n n) (List.replicate n 0))
 (hb:Below ((a.alloc (.cells #[.int .u8 0,jA 0,jA 0,jD 0 0] 239)).alloc (.map #[] 0)).heap.size ((a.alloc (.cells #[.int .u8 0,jA 0,jA 0,jD 0 0] 239)).alloc (.map #[] 0)) w2):
 Mk (w2.alloc (.cells #[.slice a.heap.size 1 1,.map (some (a.heap.size+1)),.slice (a.heap.size+1+1:) n n] 242)) w.heap.size w2.heap.size (a.heap.size+1) (a.heap.size+1+1) n a.heap.size 1 [(⟨0,0,0⟩,none,0,0)] [] (List.replicate n 0):=by
 have g:=hb.size;simp only[Qp]at g;have e:∀o,w2 (w2.alloc o):=λo=>WaL
 have c:OwnG rowN (a.alloc (.cells #[.int .u8 0,jA 0,jA 0,jD 0 0] 239)) w.heap.size (.slice a.heap.size 1 1) [(⟨0,0,0⟩,none,0,0)]:=
  XG a #[.int .u8 0,jA 0,jA 0,jD 0 0] 1 f (by decide) rfl
 have b:=(c.below ((Qj _ _).alloc (Qc _) (.map #[] 0))).below hb
 have d:MpAt w2 (a.heap.size+1) []:=by
  refine⟨#[],0,?_,rfl⟩;have h1:=Qt (a.alloc (.cells #[.int .u8 0,jA 0,jA 0,jD 0 0] 239)) (.map #[] 0);rw[Qp]at h1;exact(hb.block _ (by simp)).trans h1
 refine⟨?_,b.below (e _),?_,d.keep ((e _).block _ (by omega)),by omega,by omega⟩
 ·have:=Qt w2 (.cells #[.slice a.heap.size 1 1,.map (some (a.heap.size+1)),.slice (a.heap.size+1+1:) n n] 242)
  rw[List.length_replicate];exact this
 ·rw[List.length_replicate]
  exact(h2.low f).below (e _)
def RelM(ws:List ByteArray)(e b a n:Nat)(w:World)(i:Value)(wr:World):Prop:=
 ∃(k g cap:Nat) (d:List zaC) (c:List jE) (l:List (zaJ × Nat)) (ats:List Nat),k<=40/\i=jA (k:Int)/\w wr/\Hid (zs9 wr w.heap.size e b a n ws k g cap d c l ats)
def RelN(ws:List ByteArray)(d:List jE)(b:List zaC)(B g cap:Nat)(a:World)(v:Value)(wr:World):Prop:=
 ∃(i:Nat) (c:List zcG),i<=b.length/\v=jA (i:Int)/\NodesAt (lstS ws) d b B a.heap.size g cap i c wr/\a.grownBy wr (some g)
def RelK(ws:List ByteArray)(e:List Nat)(ats:List Nat)(a:List zcG)(B g cap i:Nat)(b:World)(v:Value)(c:World):Prop:=
 ∃(k:Nat) (s:SlT),k<=ws.length/\v=jA (k:Int)/\NodeNow a B g cap i b (accN (lstS ws) e ats i k) s c
def zeD(ws:List jE)(a:List jE)(i f:Nat):List Nat:=if i=0 then []else zaR ws (a.getD f [])
theorem zg5(ws:List jE)(s:jE):(zaR ws s).length<=ws.length:=by
 unfold zaR;exact Ql (Zn _ _) (by simp)
theorem zoW(ws:List jE)(a:List jE)(i f:Nat):(zeD ws a i f).length<=ws.length:=by
 unfold zeD
 split
 ·exact Qm _
 ·exact zg5 _ _
theorem zyz(ws:List jE)(e ats:List Nat)(i k:Nat)(b:e.length<=30)(a:k<=30):(accN ws e ats i k).length<=60:=by
 unfold accN;rw[Qa];have:=Zn (λj=>decide (ats.getD j 0=i/\0<i/\j<ws.length)) (List.range k);rw[List.length_range]at this;omega
theorem NodesAt.src{ws l:List jE}{j:List zaC}{B o g cap i:Nat}{a:List zcG}{w:World}(h:NodesAt ws l j B o g cap i a w)(n:Inv j l)(d:i<a.length):
 ∃(f:Nat) (x:zaC) (m:SlT),j[i]? = some x/\x.fail=f/\f<a.length/\w.cell? ⟨g,i*4+2,none⟩=some (jA (f:Int))/\w.cell? ⟨g,f*4+3,none⟩=some (slV m)/\EndsAt w o m (zeD ws l i f):=by
 have k:j[i]? = some a[i].1:=by rw[<-h.fst,ZM,Qd d];rfl
 have hl:j.length=a.length:=by rw[<-h.fst,Qh]
 have b:a[i].1.fail<a.length/\(0<i->a[i].1.fail<i)/\(i=0->a[i].1.fail=0):=by
  rcases Z7 i with c|c
  ·subst c
   rw[n.zero]at k;have e:a[0].1.fail=0:=by rw[<-QD k]
   exact⟨by omega,λh=>absurd h (by omega),λ_=>e⟩
  ·have:=(n.node i _ c k).2.1
   exact⟨by omega,λ_=>this,λe=>by omega⟩
 have h2:=(h.own.at i d 2 (by decide)).1;have p:=(h.own.at a[i].1.fail b.1 3 (by decide)).1;refine⟨a[i].1.fail,a[i].1,a[a[i].1.fail].2,k,rfl,b.1,h2.trans rfl,p.trans rfl,?_⟩;unfold zeD
 split
 ·rename_i c
  have:=h.rest (a[i].1.fail) _ (by omega) (Qd b.1);rw[this];exact⟨rfl,λh=>absurd h (by simp)⟩
 ·exact h.done _ _ (b.2.1 (by omega)) (Qd b.1)
theorem NodesAt.spot{ws c:List jE}{d:List zaC}{B e g cap i:Nat}{b:List zcG}{w:World}(h:NodesAt ws c d B e g cap i b w)(a:i<b.length):
 (∃u,w.cell? ⟨g,i*4+3,none⟩=some u)/\w.frozen? ⟨g,i*4+3,none⟩=false:=by
 have:=h.own.at i a 3 (by decide);exact⟨⟨_,this.1.trans rfl⟩,this.2⟩
theorem NodeNow.spot{b:List zcG}{B g cap i:Nat}{d w:World}{c:List Nat}{s:SlT}(h:NodeNow b B g cap i d c s w)(e:i<b.length):
 w.cell? ⟨g,i*4+3,none⟩=some (slV s)/\w.frozen? ⟨g,i*4+3,none⟩=false:=by
 have a:(b.set i ((b.getD i (⟨0,0,0⟩,none,0,0)).1,s)).length=b.length:=Xm ..;have h1:=h.own;rw[<-a]at h1;have:=h1.at i (by rw[a];exact e) 3 (by decide);rw[List.getElem_set_self]at this;exact⟨this.1.trans rfl,this.2⟩
theorem zyN{w:World}{b:Nat}{s:SlT}{l:List Nat}(h:OwnG rowI w b (slV s) l):s.2.1=l.length:=by
 obtain⟨A,c,e,_⟩:=h.form;injection e
theorem ztP{ws:List ByteArray}(j:zji ws){a:List jE}{h:List zaC}{ats:List Nat}{i f:Nat}{x:zaC}(hl:Lev (lstS ws) 40 h a)(p:AtOk (lstS ws) 40 a ats)(n:h[i]? = some x)(m:x.fail=f):
 zfj (accN (lstS ws) (zeD (lstS ws) a i f) ats i ws.length)=zaR (lstS ws) (a.getD i []):=by
 have g:(lstS ws).length=ws.length:=by rw[lstS,Qh]
 rcases Z7 i with c|c
 ·subst c
  have o:accN (lstS ws) (zeD (lstS ws) a 0 f) ats 0 ws.length=[]:=by
   unfold accN zeD;rw[Qg rfl,Xu,List.filter_eq_nil_iff];intro k _;simp
  have l:a.getD 0 []=[]:=by rw[Qo,hl.inv.trie.root];rfl
  rw[o,l,zmF]
  ·unfold zfj
   rw[Zu,List.mergeSort_nil]
   rfl
  ·intro w b
   obtain⟨v,d,rfl⟩:=QR.1 b;intro e;exact j.full v d (by have:=Zi List.length e;simpa using this)
 ·have:=zsM hl (λw b=>by
   obtain⟨v,d,rfl⟩:=QR.1 b;have:=j.short v d
   simpa using this) p c n
  rw[m,g]at this;unfold zeD;rw[Qe (by omega)];exact this
theorem zmw(v:zwG)(A:Option Addr)(c n:Nat)(ws:List ByteArray)(w:World)(O:ws.length=n)(h:Sl w w.heap.size 1 A n (ws.map Value.string))(h0:zcy ws=0):
 Calls prog 106 #[.slice A n c] w (zvP ws w):=by
 have hG:=hIx (zcr h0);have HC:=hIx (ziX A c n ws w O h);rw[h0]at HC;have HS:=hIx h;have gb:n<=30:=by rw[<-O];exact hG.out.few
 have gj:0<n:=by rw[<-O];exact hG.out.some
 have g9:=hIx v;have g2:=@run_makeMap prog;clear h h0 v
 go_in
 go_wp2_with (first|(go_at_call 142;refine HC.out.mono ?_;rintro e N ⟨rfl,F⟩)|(at_make;refine zkU rfl _ _ rfl N.heap.size n (N.heap.size+1+1) (by simp) rfl rfl (by omega) (by simp;omega) ?_;intro w2 ha o hZ));have hh:=zuN F.size ha o
 have hE:w (w2.alloc (.cells #[.slice N.heap.size 1 1,.map (some (N.heap.size+1)),.slice (N.heap.size+1+1:) n n] 242)):=by
  have hz:=F.size;have hs:=o.size;simp only[Qp]at hs;exact((((F.alloc hz _).alloc (by simp;omega) _).trans (o.mono (by simp;omega))).alloc (by omega) _)
 have S:=hIx (zr8 ws (by omega) (by rw[O];exact hh));rw[O]at S;clear g2 hh o ha hZ F;generalize w2.heap.size=J at *;generalize N.heap.size+1+1=I at *;generalize N.heap.size+1=bm at *;generalize N.heap.size=gl at *;generalize w2.alloc _=W at *
 go_loopw [24] (λi wr=>RelM ws J bm I n w i wr) (λi _=>40-(intOf i).toNat)
 case atStart=>exact⟨0,_,_,_,_,_,_,by omega,rfl,hE,S⟩
 case round=>
  obtain⟨k,g,cap,B,y,l,ats,hk,rfl,hb,t⟩:=hrel;clear hE S HC
  by_cases g1:k<40
  ·have hd:decide ((k:Int)<40)=true:=by simp;omega
   have C:=hIx (g9.out ws k g1 (by omega) (by omega) A c w.heap.size J bm I n g cap B y l ats wr (by rw[O];exact HS.out.below hb) t.out);rw[O]at C;go_wp2_with (go_at_call 143;apply Hid.out);refine WhM C ?_;rintro e w3 ⟨hw,⟨rfl,h8⟩|⟨rfl,g3,h9,hK,g8,l3,hf,hP⟩⟩
   ·go_wp2
    go_ret2
    exact⟨hb.trans hw,.inl ⟨rfl,h8⟩⟩
   ·go_wp2
    exact⟨⟨k+1,g3,h9,hK,g8,l3,hf,by omega,rfl,hb.trans hw,hIx hP⟩,by simp[intOf] <;> omega⟩
  ·have hA:k=40:=by omega
   rw[hA]at t;have hd:decide ((k:Int)<40)=false:=by simp;omega
   clear hA;obtain⟨Z,rfl⟩:∃Z:World,Z=wr:=⟨_,rfl⟩
   obtain⟨X,_,U,_⟩:=t.out.mkr.cells;have ho:=t.out.mkr.lt;have E:=t.out.mkr.ne;have gd:=hIx t.out.mkr.blk;rw[Qh]at X;have hT:ats.length=n:=by have:=t.out.ats.len;rw[this,lstS,Qh,O]
   rw[hT]at U;go_wp2
   go_loopw [38] (λi wr=>RelN ws y B w.heap.size g cap Z i wr) (λi _=>B.length-(intOf i).toNat)
   case atStart=>
    refine⟨0,B.map nilE,Qm _,rfl,⟨t.out.mkr.own,zoQ B,λj m h=>absurd h (by omega),λj m _ hm=>?_⟩,⟨rfl,rfl,rfl,Qc _,λ_ _ _=>rfl⟩⟩;rw[ZM]at hm;obtain⟨x,_,rfl⟩:=XQ.1 hm
    rfl
   case round=>
    obtain⟨i,ms,hi,rfl,P,Q⟩:=hrel;have hV:ms.length=B.length:=by rw[<-P.fst,Qh]
    have gc:=t.out.few;have hp:wr.heap[J]? = Z.heap[J]? := Q.block J ho.1 (λe=>E.1 (QD e));have hS:wr.heap[I]? = Z.heap[I]? := Q.block I ho.2.2.1 (λe=>E.2.2.2.1 (QD e).symm);have hB:=(zea hp 0).trans X;have V:=(zea hp 2).trans U;clear X U
    by_cases gr:i<B.length
    ·have b:i<ms.length:=by omega
     obtain⟨f,x,sf,hx,hX,gi,hg,h3,z⟩:=P.src t.out.lev.inv b;obtain⟨⟨u,r⟩,h5⟩:=P.spot b;have g0:=Q.size;have G:=zqE sf.1 sf.2.1 sf.2.2 _ wr.drew (z.sl.drewN 1) (λu hu=>by obtain⟨x,_,h⟩:=List.mem_flatMap.1 hu;exact rowI.one x u h) (by rw[z.1];have:=zoW (lstS ws) y i f;rw[show (lstS ws).length=ws.length by rw[lstS,Qh]]at this;omega);rw[z.1]at G;obtain⟨A1,n1,c1⟩:=sf;obtain rfl:n1=(zeD (lstS ws) y i f).length:=z.1;dsimp only at G;have hH:=hIx G;have HN:=hIx P;have T:=hIx Q;have gf:(f:Int)<(B.length:Int):=by omega
     unfold slV at h3;clear G z P Q;go_upto_region 15 with fail
     go_cut [8]from 47 to 61 (λs8 wx=>s8=.pointer (some ⟨g,i*4,none⟩)/\∃s:SlT,Hid (NodeNow ms w.heap.size g cap i wr (zeD (lstS ws) y i f) s wx))
     case first=>
      go_region_with (first|(go_at_call 144;(with_reducible refine(hH.out).mono ?_);rintro e w2 ⟨v2,rfl,hW,o⟩;have hD:OwnG rowI w2 wr.heap.size v2 (zeD (lstS ws) y i f):=hW;obtain⟨A2,c2,rfl,_⟩:=hD.form;have hR:=zaa o r;have hJ:=zaB o r h5))
      all_goals
       clear hR hJ hB V hg h3 r h5;go_wp2;go_meet;exact⟨rfl,(A2,_,c2),hIx (NodeNow.start HN.out b (by omega) hD (undrew o))⟩
     case rest=>
      obtain⟨rfl,s0,H⟩:=hcut;obtain⟨wx,rfl⟩:∃wx:World,wx=wc:=⟨_,rfl⟩
      clear hg h3 r h5 u hH;have h4:=H.out.only;have ht:wx.heap[J]? = wr.heap[J]? := h4.block J (by omega) (λe=>E.1 (QD e));have ge:=(zea ht 2).trans V;clear hB V;obtain⟨w0,rfl⟩:∃w0:World,w0=wr:=⟨_,rfl⟩
      go_wp2
      go_loopw [67] (λi' wq=>RelK ws (zeD (lstS ws) y i f) ats ms w.heap.size g cap i w0 i' wq) (λi' _=>n-(intOf i').toNat)
      case atStart=>exact⟨0,s0,Qm _,rfl,by unfold accN;rw[List.range_zero,List.filter_nil,QE];exact H.out⟩
      case round=>
       obtain⟨q,s,hq,rfl,D⟩:=hrel;obtain⟨A5,n5,c5⟩:=s;obtain rfl:n5=_:=zyN D.row;have r:=D.spot b;unfold slV at r;dsimp only at r;obtain⟨hC,hY⟩:=r;have L:wr.heap[I]? = Z.heap[I]? := (D.only.block I (by omega) (λe=>E.2.2.2.1 (QD e).symm)).trans hS;have hv:=zyz (lstS ws) (zeD (lstS ws) y i f) ats i q (by have:=zoW (lstS ws) y i f;rw[show (lstS ws).length=ws.length by rw[lstS,Qh]]at this;omega) (by omega)
       by_cases gn:q<n
       ·have g5:=(zea L q).trans (t.out.mkr.at q (by omega)).1
        have d:=hIx (zrj (lstS ws) (zeD (lstS ws) y i f) ats i q (by rw[lstS,Qh];omega));rw[show ats.getD q 0=ats[q]'(by omega)by rw[Qo,Qd (by omega)];rfl]at d;have C:=hIx D;have gh:=D.only.size;clear D L;generalize ats[q]'(by omega)=a at g5 d;generalize accN (lstS ws) (zeD (lstS ws) y i f) ats i q=Y at *
        by_cases hc:a=i
        ·subst hc
         by_cases hF:0<a
         ·rw[Qg ⟨rfl,hF⟩]at d
          go_wp2_with (at_builtin;refine zaw rowI rfl _ _ rfl w0.heap.size _ Y rfl C.out.row (by omega) _ q rfl wr.heap.size rfl 1 rfl (by omega) ?_;intro v4 w4 hy h7 gq gp;obtain⟨g4,c4,rfl,_,_⟩:=hy.head (by simp);have gk:=(h7.cell (p:=⟨g,a*4+3,none⟩) (show g<w0.heap.size by omega)).trans hC;have gg:=(h7.frozen (p:=⟨g,a*4+3,none⟩) (show g<w0.heap.size by omega)).trans hY);exact⟨⟨q+1,(some ⟨g4,0,none⟩,Y.length+1,c4),by omega,rfl,by rw[d.out];exact C.out.add b (by omega) hy h7⟩,by simp[intOf] <;> omega⟩
         ·rw[Qe (λh=>hF h.2)]at d
          obtain rfl:a=0:=by omega
          go_wp2;exact⟨⟨q+1,(A5,_,c5),by omega,rfl,by rw[d.out];exact C.out⟩,by simp[intOf] <;> omega⟩
        ·rw[Qe (λh=>hc h.1)]at d
         have he:((a:Int)==(i:Int))=false:=Qb.2 (by omega);go_wp2;exact⟨⟨q+1,(A5,_,c5),by omega,rfl,by rw[d.out];exact C.out⟩,by simp[intOf] <;> omega⟩
       ·have e5:q=ws.length:=by omega
        rw[e5]at D hC hv;clear e5;have g7:=ztP hG.out t.out.lev t.out.ats hx hX;have h6:=hIx (ztL D.row (by omega));unfold slV at h6;dsimp only at h6;have C:=hIx D;clear D;generalize accN (lstS ws) (zeD (lstS ws) y i f) ats i ws.length=Y at *;go_wp2_with (go_at_call 145;refine h6.out.mono ?_;rintro e w6 ⟨rfl,hI,g6,hr,hU⟩);have K:=NodesAt.next HN.out b g0 (by omega) C.out.own C.out.only hI g7 hr hU;exact⟨⟨i+1,_,by omega,rfl,K.1,zax T.out K.2⟩,by simp[intOf] <;> omega⟩
    ·have e6:i=B.length:=by omega
     rw[e6]at P;have HN:=hIx P;have T:=hIx Q;clear P Q e6;go_wp2
     go_ret2
     exact⟨hb.trans ⟨T.out.os,T.out.tape,T.out.output,T.out.size,λj hj=>T.out.block j (Qv hj hb.size) (λe=>by have:=t.out.mkr.base.2.1;have e:=QD e;omega)⟩,.inr ⟨g,cap,B,y,ms,by rw[hV];rfl,⟨t.out.lev,t.out.few,Z.heap.size,hb.size,HN.out⟩⟩⟩
theorem srcI{wr:World}{B n:Nat}{A:Option Addr}{xs:List Value}{d:Nat->Value}(h:Sl wr B 1 A n xs){j:Nat}(l:j<n)(k:∀j,j<n->xs[j]? = some (d j)):
 ∃b off,A=some ⟨b,off,none⟩/\wr.cell? ⟨b,off+j,none⟩=some (d j):=by
 have hl:=h.len;obtain⟨b,off,e,_,m⟩:=h.src (by omega);have g:=k j l
 have a:∀i v,xs[i]? = some v->wr.cell? ⟨b,off+i,none⟩=some v:=λi v f=>by
  have c:i<xs.length:=(Qw.1 f).1;rw[m i c,<-f,Qd c]
 exact⟨b,off,e,a _ _ g⟩
theorem zt2(g:Nat)(s:Array Value)(B:∀args w,(callFunc g args).run prog w=.ok (.enter g args) w)(A:Option Addr)(n c:Nat)(xs:List Value)(v:Nat->Value)(p:Nat->Bool)(w:World)
 (h:Sl w w.heap.size 1 A n xs) (r:n<=9223372036854775807) (u:∀j,j<n->xs[j]? = some (v j))
 (q:∀W j,j<n->w W->Calls prog g (#[v j]++s) W (zav (p j) W)):
 Calls prog 136 #[.slice A n c,.func (.func g) #[] s] w λe w'=>e=jC (jA (hitI p n))/\w w':=by
 have y:=hIx q;have z:=hIx u;clear q u
 go_in
 go_wp2
 go_loopw [5,8] (λ_ i wr=>∃j:Nat,j<=n/\i=jA j/\w wr/\Hid (∀i,i<j->p i=false)) (λ_ i _=>n-(intOf i).toNat)
 case atStart=>exact⟨0,Qm _,rfl,Qj _ _,λi t=>absurd t (by omega)⟩
 case round=>
  obtain⟨j,C,rfl,hb,a⟩:=hrel
  by_cases d:j<n
  ·obtain⟨b,off,rfl,x⟩:=srcI (h.below hb) d z.out
   have o:=y.out wr j d hb;cases l:p j with
   |true=>
    rw[l]at o;have f:=hIx (zme p n j d l a);clear l;go_wp2_with (go_at_fn g;refine o.mono ?_;rintro e w' ⟨rfl,k⟩);go_ret;exact⟨zac f.out.symm,hb.trans (k.mono hb.size)⟩
   |false=>
    rw[l]at o
    have m:Hid (∀i,i<j+1->p i=false):=λi t=>by
     by_cases e:i=j
     ·rw[e];exact l
     ·exact a i (by omega)
    clear l a;go_wp2_with (go_at_fn g;refine o.mono ?_;rintro e w' ⟨rfl,k⟩)
    go_roundw
    case rel=>exact⟨j+1,by omega,by go_num,hb.trans (k.mono hb.size),m⟩
    case measure=>simp[intOf] <;> omega
  ·obtain rfl:j=n:=by omega
   have f:=hIx (zew p j a);go_wp2;go_ret;exact⟨zac f.out.symm,hb⟩
theorem zj0(g:Nat)(b:Array Value)(k:∀args w,(callFunc g args).run prog w=.ok (.enter g args) w)(A:Option Addr)(n c:Nat)(xs:List Value)(d:Nat->Value)(p:Nat->Bool)(w:World)
 (h:Sl w w.heap.size 1 A n xs) (a:n<=9223372036854775807) (i:∀j,j<n->xs[j]? = some (d j))
 (f:∀W j,j<n->w W->Calls prog g (#[d j]++b) W (zav (p j) W)):
 Calls prog 101 #[.slice A n c,.func (.func g) #[] b] w (zav (anyN p n) w):=by
 have m:=hIx (zt2 g b k A n c xs d p w h a i f);have l:=hIx (zhK p n);clear f i h
 go_in
 go_wp2_with fail;refine m.out.mono ?_;rintro e o ⟨rfl,hb⟩;go_wp2;go_ret;exact⟨zaK l.out,hb⟩
theorem NodesAt.below{ws b:List jE}{c:List zaC}{B d g cap i:Nat}{a:List zcG}{w w':World}(h:NodesAt ws b c B d g cap i a w)(hb:w w'):NodesAt ws b c B d g cap i a w':=
 ⟨h.own.below hb,h.fst,λj m l f=>(h.done j m l f).keep hb.size λk _ e=>hb.block k e,h.rest⟩
theorem TreeIs.below{w w':World}{e:Nat}{ws:List ByteArray}{g cap:Nat}{d:List zaC}{c:List jE}{b:List zcG}(h:TreeIs w e ws g cap d c b)(hb:w w'):TreeIs w' e ws g cap d c b:=by
 obtain⟨h1,h2,a,i,f⟩:=h;exact⟨h1,h2,a,i,f.below hb⟩
theorem TreeIs.len{w:World}{f:Nat}{ws:List ByteArray}{g cap:Nat}{a:List zaC}{e:List jE}{b:List zcG}(h:TreeIs w f ws g cap a e b):b.length=a.length/\0<a.length/\g<w.heap.size:=by
 obtain⟨h1,h2,d,i,c⟩:=h;exact⟨by rw[<-c.fst,Qh],(Qw.1 h1.inv.zero).1,(c.own.lt g rfl).2⟩
theorem TreeIs.at{w:World}{m:Nat}{ws:List ByteArray}{g cap:Nat}{c:List zaC}{i:List jE}{f:List zcG}(h:TreeIs w m ws g cap c i f)(k:Nat)(j:k<c.length):
 ∃s:SlT,w.cell? ⟨g,k*4,none⟩=some (.int .u8 c[k].b.toNat)/\w.cell? ⟨g,k*4+1,none⟩=some (jA (c[k].up:Int))/\w.cell? ⟨g,k*4+2,none⟩=some (jA (c[k].fail:Int))/\w.cell? ⟨g,k*4+3,none⟩=some (slV s)/\EndsAt w 0 s (zaR (lstS ws) (i.getD k [])):=by
 have hl:=h.len.1;obtain⟨h1,h2,n,o,d⟩:=h;have a:k<f.length:=by omega
 have e:f[k].1=c[k]:=by
  have:=d.fst;have l:(f.map Prod.fst)[k]? = c[k]? := by rw[this]
  rw[ZM,Qd a,Qd j]at l;exact QD l
 rw[<-e];exact⟨f[k].2,(d.own.at k a 0 (by decide)).1,(d.own.at k a 1 (by decide)).1,(d.own.at k a 2 (by decide)).1,(d.own.at k a 3 (by decide)).1,(d.done k _ j (Qd a)).lower (Qm _)⟩
theorem zhv{a:List zaC}{o:List jE}(g:Inv a o){l:List (zaJ × Nat)}{i:Nat}(q:0<i)(c:i<a.length)(hl:NextOk (a.take i) l):zbH l ((a[i].up:Int),a[i].b)=none:=by
 cases h:zbH l ((a[i].up:Int),a[i].b)with
 |none=>rfl
 |some j=>
  obtain⟨m,n,k,d,hb⟩:=(hl _ _ j).1 h;have e:j<i:=by have:=(Qw.1 k).1;rw[QJ]at this;omega
  rw[List.getElem?_take_of_lt e]at k;obtain⟨_,_,p,f,r,_,s,_⟩:=g.node i a[i] q (Qd c);have:=(g.kid r (j:=j) (b:=a[i].b)).2 ⟨m,n,k,d,hb⟩;exact absurd (g.inj this s) (by omega)
theorem zmr{a:List zaC}{e:List jE}(g:Inv a e){l:List (zaJ × Nat)}{i:Nat}(f:0<i)(c:i<a.length)(hl:NextOk (a.take i) l):NextOk (a.take (i+1)) (l++[(((a[i].up:Int),a[i].b),i)]):=by
 have d:(a.take i).length=i:=by rw[QJ];omega
 have:=hl.add a[i] (by omega) (zhv g f c hl);rw[d]at this;rw[Qs c];exact this
theorem zqB{b:List zaC}{d:List jE}(e:Inv b d):NextOk (b.take 1) []:=by
 have c:=e.zero;have a:=(Qw.1 c).1
 have:b.take 1=[⟨0,0,0⟩]:=by
  rw[show (1:Nat)=0+1 from rfl,Qs a,XM];rw[Qd a]at c;rw[QD c];rfl
 rw[this];exact NextOk.start
theorem zvt(k m B:Nat)(W:World)(a:k<m)(d:W.cell? B=some (jA (m:Int))):
 Calls prog 316 #[jA (k:Int),.pointer B] W (zav false W):=by
 have c:decide ((k:Int)<0)=false:=by simp
 have b:decide ((m:Int)<=(k:Int))=false:=by simp;omega
 go_in
 go_wp2;go_ret;exact⟨by simp[a],Qj _ _⟩
theorem zoZ{c:List zaC}{d:List jE}(e:Inv c d){l:List (zaJ × Nat)}(h:NextOk (c.take 0) l):NextOk (c.take 1) l:=λa b j=>by
 rw[h a b j]
 constructor
 ·rintro⟨_,n,f,_⟩;simp at f
 ·intro h2;exact absurd ((zqB e a b j).2 h2) (by simp[zbH])
theorem zsv{w:World}{d:Nat}{s:SlT}{l:List Nat}(h:EndsAt w d s l):∀j,j<s.2.1->(l.flatMap rowI.cells)[j]? = some (jA ((l.getD j 0:Nat):Int)):=λj c=>by
 have a:j<l.length:=by rw[<-h.1];exact c
 have b:=zcw rowI.cells 1 (λ_=>rfl) l j 0 a (by decide);rw[show j*1+0=j by omega]at b;rw[b,Qo,Qd a]
 rfl
theorem zrV{ws:List ByteArray}{a:jE}{W:World}{s:SlT}{n B:Nat}(g:ws.length<=30)(h:EndsAt W n s (zaR (lstS ws) a))(m:B<W.heap.size)(i:W.cell? B=some (jA (ws.length:Int))):
 Calls prog 101 #[slV s,.func (.func 316) #[] #[.pointer B]] W (zav false W):=by
 have f:=zg5 (lstS ws) a;have d:(lstS ws).length=ws.length:=by rw[lstS,Qh]
 have:=zj0 316 #[.pointer B] (enters_of func316 (by kernel_rfl) rfl) s.1 s.2.1 s.2.2 _ (λj=>jA (((zaR (lstS ws) a).getD j 0:Nat):Int)) (λ_=>false) W h.sl (by rw[h.1];omega) (zsv h) λW' j l hb=>by
  have c:j<(zaR (lstS ws) a).length:=by rw[<-h.1];exact l
  have k:(zaR (lstS ws) a).getD j 0∈zaR (lstS ws) a:=by rw[Qo,Qd c];exact Qz c
  have b:=(zcI.1 k).1;rw[d]at b;exact zvt _ ws.length B W' b ((hb.cell (p:=⟨B,0,none⟩) m).trans i)
 have e:anyN (λ_=>false) s.2.1=false:=(zek _ _).2 λ_ _=>rfl
 rw[e]at this;exact this
def RelC(a:List zaC)(m b:Nat)(w:World)(v:Value)(wr:World):Prop:=
 ∃(k:Nat) (l:List (zaJ × Nat)),k<=a.length/\v=jA (k:Int)/\w wr/\MpAt wr b l/\NextOk (a.take k) l/\wr.heap[w.heap.size]? = some (.cells #[jA (m:Int)] 3)
theorem zqp(ws:List ByteArray)(H:ws.length<=30)(lo g cap:Nat)(c:List zaC)(U:List jE)(L:List zcG)(w:World)(z:TreeIs w lo ws g cap c U L):
 Calls prog 304 #[.slice g L.length cap,jA (ws.length:Int)] w λe w'=>e=jC (jA 0)/\w w':=by
 obtain⟨hl,Q,hg⟩:=z.len;have h4:=z.few;rw[hl];obtain⟨s0,_,u,y,_⟩:=z.at 0 Q;have Y:c[0]=⟨0,0,0⟩:=by have:=z.lev.inv.zero;rw[Qd Q]at this;exact QD this
 rw[Y]at u y;have hu:w.cell? ⟨g,1,none⟩=some (jA 0):=by simpa using u
 have hf:w.cell? ⟨g,2,none⟩=some (jA 0):=by simpa using y
 have d1:decide ((400:Int)<(c.length:Int))=false:=by simp;omega
 have T:decide ((30:Int)<(ws.length:Int))=false:=by simp;omega
 have d3:((c.length:Int)==0)=false:=Qb.2 (by omega);have X:g≠w.heap.size:=by omega
 have D:=hIx z;have h3:=@run_makeMap prog;clear u y z
 go_in
 go_wp2
 go_loopw [37] (λv wr=>RelC c ws.length (w.heap.size+1) w v wr) (λv _=>c.length-(intOf v).toNat)
 case atStart=>
  refine⟨0,[],Qm _,rfl,WaL.alloc (by simp) _,⟨#[],0,?_,rfl⟩,?_,?_⟩
  ·have:=Qt (w.alloc (.cells #[jA (ws.length:Int)] 3)) (.map #[] 0)
   rw[Qp]at this;exact this
  ·intro a b j
   simp[zbH]
  ·exact(Qr _ _ _ (by simp)).trans (Qt w (.cells #[jA (ws.length:Int)] 3))
 case round=>
  obtain⟨k,l,hk,rfl,hb,hM,A,m⟩:=hrel;clear hu hf d1 T d3
  by_cases q:k<c.length
  ·obtain⟨s,c0,c1,c2,c3,G⟩:=(D.out.below hb).at k q
   have E:=Qf wr w.heap.size 0 _ _ _ m;have B:=zcU m;have h6:g≠wr.heap.size:=by omega
   have p:Hid (∀o,Calls prog 101 #[slV s,.func (.func 316) #[] #[.pointer w.heap.size]] (wr.alloc o) (zav false (wr.alloc o))):=hIx λo=>
    zrV H (G.keep (by simp) λj _ hj=>Qr _ _ _ hj) (by simp;omega) (zaa ((Qj _ _).alloc (Qc _) o) E)
   obtain⟨A5,n5,c5⟩:=s;unfold slV at c3 p;dsimp only at c3 p;have S:=hIx hb;have V:=hIx hM;have HN:=hIx A;have N:=hIx m;have r:w.heap.size+1<wr.heap.size:=by obtain⟨es,ck,h5,_⟩:=hM;exact zcU h5
   by_cases F:k=0
   ·subst F
    simp only[XP,Zh]at c0 c1 c2 c3;clear G hM A hb m;go_wp2_with (go_at_call 101;refine(p.out _).mono ?_;rintro e w2 ⟨rfl,h⟩);have d:wr w2:=zaI h (Qc _);exact⟨⟨1,l,by omega,rfl,S.out.trans (d.mono (by omega)),V.out.keep (d.block _ r),zoZ D.out.lev.inv HN.out,(d.block _ B).trans N.out⟩,by simp[intOf] <;> omega⟩
   ·obtain⟨J,K,_⟩:=D.out.lev.inv.node k c[k] (by omega) (Qd q)
    have f:=zhv D.out.lev.inv (by omega) q A;have i:=hIx (zmr D.out.lev.inv (by omega) q A);obtain⟨o,t⟩:=zdI hM ((c[k].up:Int),c[k].b) k ⟨by omega,by show (c[k].up:Int)<_;omega⟩ f;have n:Hid (∀W:World,W.heap[w.heap.size+1]? = wr.heap[w.heap.size+1]? -> (Instr.mapUpdate 240 (.map (some (w.heap.size+1))) (.agg #[jA (c[k].up:Int),.int .u8 c[k].b.toNat]) (jA (k:Int))).run prog W=.ok () (ChangeMaps.setBlock W (w.heap.size+1) o)/\MpAt (ChangeMaps.setBlock W (w.heap.size+1) o) (w.heap.size+1) (l++[(((c[k].up:Int),c[k].b),k)])):=hIx t
    have C:Hid (∀W,wr W->(Instr.lookup 240 (.map (some (w.heap.size+1))) (.agg #[jA (c[k].up:Int),.int .u8 c[k].b.toNat]) true).run prog W=.ok (.tuple #[jA 0,.bool false]) W):=hIx λW hW=>by
     have:=zdf (w:=W) (hM.keep (hW.block _ r)) ((c[k].up:Int),c[k].b) ⟨by omega,by show (c[k].up:Int)<_;omega⟩;rw[f]at this;exact this
    generalize c[k]=x at *;obtain⟨xb,O,P⟩:=x;dsimp only at c0 c1 c2 J K i n C;have t1:decide ((O:Int)<0)=false:=by simp
    have t2:decide ((k:Int)<=(O:Int))=false:=by simp;omega
    have t3:decide ((P:Int)<0)=false:=by simp
    have t4:decide ((k:Int)<=(P:Int))=false:=by simp;omega
    have t5:((k:Int)==0)=false:=Qb.2 (by omega);clear G hM A hb m t f;go_wp2_with (go_at_call 101;refine(p.out _).mono ?_;rintro e w2 ⟨rfl,h⟩;have d:wr w2:=zaI h (Qc _);have n0:=zao h 0;have n1:=zao h 1;have n2:=zao h 2;have Z:=C.out w2 d;have h7:=(n.out w2 (d.block _ r)).1);have I:=(n.out w2 (d.block _ r)).2;exact⟨⟨k+1,_,by omega,rfl,(S.out.trans (d.mono (by omega))).trans (zdc _ _ _ _ (by omega)),I,i.out,(zlb _ _ _ _ (by omega)).trans ((d.block _ B).trans N.out)⟩,by simp[intOf] <;> omega⟩
  ·have e:k=c.length:=by omega
   clear A;go_wp2;go_ret;exact⟨rfl,hb⟩
