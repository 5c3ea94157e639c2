/- Lemmas for the last texts. -/
import Derived.Test.YtnnokglddolglaaGreatDoorM13
import Derived.Lib.SliceRun
set_option maxHeartbeats 800000
set_option maxRecDepth 100000
namespace Go.Proofs.YtnnokglddolglaaGreatDoor
open Go.RowKit Go.Proofs.Tryz
def zhI(ws:List (List UInt8))(n:Nat)(a:List Nat)(k:Nat):Nat × UInt8:=(a.getD k 0,(ws.getD k []).getD n 0)
def gath(ws:List (List UInt8))(n:Nat)(a:List Nat):Nat->List (Nat × UInt8)
 |0=>[]
 |k+1=>if n<(ws.getD k []).length/\zhI ws n a k ∉ gath ws n a k then gath ws n a k++[zhI ws n a k]else gath ws n a k
theorem zlg(ws:List (List UInt8))(n:Nat)(c:List Nat):∀m,(gath ws n c m).Nodup/\∀e,e∈gath ws n c m↔∃k,k<m/\n<(ws.getD k []).length/\e=zhI ws n c k
 |0=>⟨by simp[gath],λe=>by simp[gath]⟩
 |m+1=>by
  obtain⟨h1,h2⟩:=zlg ws n c m
  have i:∀e,(∃k,k<m+1/\n<(ws.getD k []).length/\e=zhI ws n c k)↔(e∈gath ws n c m\/n<(ws.getD m []).length/\e=zhI ws n c m):=λe=>by
   rw[h2]
   constructor
   ·rintro⟨k,j,d,f⟩
    by_cases g:k=m
    ·subst g;exact .inr ⟨d,f⟩
    ·exact .inl ⟨k,by omega,d,f⟩
   ·rintro(⟨k,j,d,f⟩|⟨d,f⟩)
    ·exact⟨k,by omega,d,f⟩
    ·exact⟨m,by omega,d,f⟩
  rw[gath]
  split
  case isTrue h=>
   refine⟨List.nodup_append.2 ⟨h1,by simp,λa l b hb e=>?_⟩,λe=>?_⟩
   ·rw[QE]at hb
    subst hb;subst e
    exact h.2 l
   ·rw[QN,QE,i]
    exact⟨λd=>d.imp id λf=>⟨h.1,f⟩,λd=>d.imp id λf=>f.2⟩
  case isFalse h=>
   refine⟨h1,λe=>?_⟩;rw[i]
   constructor
   ·exact .inl
   ·rintro(d|⟨d,rfl⟩)
    ·exact d
    ·exact Classical.byContradiction λf=>h ⟨d,f⟩
theorem zqg(ws:List (List UInt8))(n:Nat)(a:List Nat):EdgesOf ws n a (gath ws n a ws.length):=
 ⟨(zlg ws n a ws.length).1,(zlg ws n a ws.length).2⟩
theorem EdgesOf.perm{ws:List (List UInt8)}{n:Nat}{a:List Nat}{es b:List (Nat × UInt8)}(h:EdgesOf ws n a es)(c:b.Perm es):EdgesOf ws n a b:=
 ⟨c.nodup_iff.2 h.nod,λe=>(c.mem_iff).trans (h.mem e)⟩
def lstS(ws:List ByteArray):List (List UInt8):=ws.map (·.data.toList)
def nilE(n:zaC):zcK:=(n,none,0,0)
theorem zpo(a:List zaC):(a.map nilE).map Prod.fst=a:=by
 rw[Xu];exact List.map_id a
structure ztR(w:World)(B gm bm ga ca:Nat)(ws:List ByteArray)(n:Nat)(g cap:Nat)(ns:List zaC)(ss:List (List UInt8))(l:List (zaM × Nat))(ats:List Nat):Prop where
 mkr:Mk w B gm bm ga ca g cap (ns.map nilE) l ats
 lev:Lev (lstS ws) n ns ss
 ats:AtOk (lstS ws) n ss ats
 next:NextOk ns l
 few:ns.length<=400
def Full(ws:List (List UInt8)):Prop:=∃a:List (List UInt8),a.Nodup/\a.length=401/\∀v∈a,∃w∈ws,v <+:w
theorem Mid.full{ws:List (List UInt8)}{n k:Nat}{f o:List zaC}{a m:List (List UInt8)}{d:List Nat}{es:List (Nat × UInt8)}(hl:Lev ws n f a)(r:AtOk ws n a d)(s:EdgesOf ws n d es)(h:Mid ws n a es k o m)(q:k<es.length)(g:o.length=400):Full ws:=by
 obtain⟨p,_,l,i,_⟩:=h.next hl r s q
 have b:∀e,e∈es->∃w∈ws,strE a e <+:w:=λe h1=>by
  obtain⟨j,h2,t,g,_,_⟩:=zeI r s h1;exact⟨ws.getD j [],by rw[Qk,Qc h2];exact Qy h2,by rw[g];exact List.take_prefix _ _⟩
 refine⟨(p++[es[k].2])::m,ZP.2 ⟨i,h.inv.trie.uniq⟩,by rw[Qo,<-h.inv.len,g],λv c=>?_⟩
 rcases QJ.1 c with rfl|c
 ·rw[<-l]
  exact b _ (Qy q)
 ·rw[h.str]at c
  rcases QN.1 c with c|c
  ·exact((hl.mem v).1 c).2
  ·obtain⟨e,h1,rfl⟩:=QO.1 c
   exact b e (ZK h1)
theorem zja:∀(l m:List (List UInt8)),l.Nodup->(∀x∈l,x∈m)->l.length<=m.length
 | [],_,_,_=>Qm _
 |a::l,m,h,c=>by
  rw[ZP]at h;have b:=c a (by simp);have:=zja l (m.erase a) h.2 λx d=>(List.mem_erase_of_ne (λe=>h.1 (by rw[<-e];exact d))).2 (c x (by simp[d]))
  rw[List.length_erase_of_mem b]at this;have:=List.length_pos_of_mem b;rw[Qo];omega
theorem zgR{ws:List (List UInt8)}{n:Nat}{d:List zaC}{c:List (List UInt8)}(hl:Lev ws n d c)(e:∀w∈ws,w.length<=n)(h:d.length<=400):¬Full ws:=by
 rintro⟨l,h1,h2,g⟩
 have:=zja l c h1 λv f=>by
  obtain⟨w,a,b⟩:=g v f;exact(hl.mem v).2 ⟨Qn b.length_le (e w a),w,a,b⟩
 rw[h2,<-hl.inv.len]at this;omega
def ziw(B h b a f:Nat)(ws:List ByteArray)(n:Nat)(w:World)(e:Ending)(w':World):Prop:=
 Below B w w'/\((e=.returned (.bool false)/\Full (lstS ws))\/(e=.returned (.bool true)/\∃g cap d c l ats,ztR w' B h b a f ws (n+1) g cap d c l ats))
def Rel1(ws:List ByteArray)(n:Nat)(ats:List Nat)(w:World)(v i:Value)(wr:World):Prop:=
 ∃k,k<=ws.length/\i=.int .i64 (k:Int)/\Below w.heap.size w wr/\OwnG rowE wr w.heap.size v (gath (lstS ws) n ats k)
theorem zhj(ws:List (List UInt8))(n:Nat)(a:List Nat):∀k,(gath ws n a k).length<=k
 |0=>Qd _
 |k+1=>by
  have:=zhj ws n a k;rw[gath]
  split
  ·rw[Qa,QG];omega
  ·omega
theorem zeG{ws:List ByteArray}{k:Nat}(a:k<ws.length):(lstS ws).getD k []=ws[k].data.toList:=by
 rw[Qk,lstS,ZW,Qc a];rfl
theorem zuU{ws:List ByteArray}{n:Nat}{ats:List Nat}{k:Nat}(a:k<ws.length)(h:¬n<ws[k].size):gath (lstS ws) n ats (k+1)=gath (lstS ws) n ats k:=by
 rw[gath,Qe];rw[zeG a];exact λh2=>h h2.1
theorem zuQ{ws:List ByteArray}{n:Nat}{ats:List Nat}{k:Nat}(a:k<ws.length)(b:k<ats.length)(h:n<ws[k].size):zhI (lstS ws) n ats k=(ats[k],ws[k][n]):=by
 unfold zhI;rw[zeG a,Qk,Qc b,Qk,Qc (by simpa using h)]
 rfl
theorem zvk{ws:List ByteArray}{n:Nat}{ats:List Nat}{k:Nat}(a:k<ws.length)(b:k<ats.length)(h:n<ws[k].size):gath (lstS ws) n ats (k+1)=if (ats[k],ws[k][n])∈gath (lstS ws) n ats k then gath (lstS ws) n ats k else gath (lstS ws) n ats k++[(ats[k],ws[k][n])]:=by
 rw[gath,zuQ a b h,zeG a]
 by_cases c:(ats[k],ws[k][n])∈gath (lstS ws) n ats k
 ·rw[Qi c,Qe (λh2=>h2.2 c)]
 ·rw[Qe c,Qi ⟨by simpa using h,c⟩]
theorem zoE{w:World}{B:Nat}{A:Option Addr}{n:Nat}{ws:List ByteArray}(h:Sl w B 1 A n (ws.map Value.string)){k:Nat}(c:k<ws.length):∃b a,A=some ⟨b,a,none⟩/\b<B/\w.cell? ⟨b,a+k,none⟩=some (.string ws[k]):=by
 obtain⟨b,a,e,hb,d⟩:=h.src (by rw[Qh];omega);exact⟨b,a,e,hb,by rw[d k (by rw[Qh];exact c),Zd]⟩
def Rel2(B e h c f:Nat)(ws:List ByteArray)(n:Nat)(ats:List Nat)(w:World)(es:List (Nat × UInt8))(b:List (List UInt8))(v i:Value)(wr:World):Prop:=
 ∃k g cap a d l,k<=es.length/\i=.int .i64 (k:Int)/\Below B w wr/\EdgesAt wr w.heap.size v es/\Mk wr B e h c f g cap (a.map nilE) l ats/\Mid (lstS ws) n b es k a d/\NextOk a l/\a.length<=400
def Rel3(B e h b f:Nat)(ws:List ByteArray)(n:Nat)(w:World)(a:List Nat)(d:List zaC)(c:List (List UInt8))(l:List (zaM × Nat))(g cap:Nat)(i:Value)(wr:World):Prop:=
 ∃k ats,k<=ws.length/\i=.int .i64 (k:Int)/\Below B w wr/\Mk wr B e h b f g cap (d.map nilE) l ats/\ats.length=ws.length/\(∀j,j<k->c[ats.getD j 0]? = some (((lstS ws).getD j []).take (n+1)))/\∀j,k<=j->ats.getD j 0=a.getD j 0
theorem zqZ{ws:List ByteArray}{n:Nat}{ats:List Nat}{b:List zaC}{a:List (List UInt8)}(g:Inv b a)(f:AtOk (lstS ws) n a ats)(h:b.length<=400):∀e∈gath (lstS ws) n ats ws.length,e.1<65536:=λe d=>by
 obtain⟨k,c,_,rfl⟩:=((zlg (lstS ws) n ats ws.length).2 e).1 d;have:=g.lt (f.str k (by rw[lstS,Qh];exact c));show ats.getD k 0<65536
 omega
theorem Rel2.step{B s S J N:Nat}{ws:List ByteArray}{n:Nat}{ats:List Nat}{w:World}{es:List (Nat × UInt8)}{t:List (List UInt8)}{v:Value}{wr E:World}{k I o:Nat}{a:List zaC}{d:List (List UInt8)}{l2:List (zaM × Nat)}{up:Nat}{x:UInt8}{p:List UInt8}
 (hk:k<es.length) (H:es[k]=(up,x)) (hb:Below B w wr) (L:Below B wr E) (hE:EdgesAt E w.heap.size v es) (hM:Mk E B s S J N I o (a.map nilE) (l2++[(((up:Int),x),a.length)]) ats) (g:Mid (lstS ws) n t es k a d) (hN:NextOk a l2) (h4:a.length<=400) (h5:a.length≠400)
 (y:d[up]? = some p) (O:strE t (up,x)=p++[x]) (A:p++[x] ∉ d) (V:∀v,v∈d->v.length<=p.length+1):
 ∀(r:Nat) (w3 l:World) (C c4:Nat),zxL d p x r->Below E.heap.size E w3->OwnG rowN l B (.slice (some ⟨C,0,none⟩) (a.map nilE++[nilE ⟨x,up,r⟩]).length c4) (a.map nilE++[nilE ⟨x,up,r⟩])->Below B w3 l->(∀j,j<w3.heap.size->I≠j->l.heap[j]? = w3.heap[j]?)->
  Rel2 B s S J N ws n ats w es t v (.int .i64 ((k:Int)+1)) (l.setCell ⟨s,0,none⟩ (.slice (some ⟨C,0,none⟩) (a.length+1) c4)):=by
 intro r w3 l C c4 hr u Z X i;obtain⟨f,Y,W⟩:=hr;have h:=hM.below u;have m:(a.map nilE++[nilE ⟨x,up,r⟩]).length=a.length+1:=by simp
 obtain⟨g',h3,e,z⟩:=h.push Z (by rw[m];omega) i;injection e with G _ e2
 injection G with G
 injection G with G _ _
 subst G;subst e2
 rw[m]at z;obtain⟨c,K,q⟩:=XD h.own I rfl;have D:=h.blk;have U:=h.base;have h6:=hM.lt;have Q:EdgesAt w3 w.heap.size v es:=hE.keep λj cs K b=>u.block j (zc2 b)
 have P:EdgesAt l w.heap.size v es:=Q.keep λj cs K b=>i j (zc2 b) λe=>by
  rw[<-e,q]at b;injection b with b
  injection b with _ b
  exact absurd b (by decide)
 have F:l.heap[s]? = some (zjD I o (a.map nilE).length S J ats.length N):=(i s (zc2 D) (XB h.ne.1)).trans D
 have T:EdgesAt (l.setCell ⟨s,0,none⟩ (.slice (some ⟨C,0,none⟩) (a.length+1) c4)) w.heap.size v es:=P.keep λj cs K b=>Ql l ⟨s,0,none⟩ _ j λe=>by
  rw[e]at b;rw[F]at b;injection b with b
  unfold zjD at b;injection b with _ b
  exact absurd b (by decide)
 have h0:0<a.length:=(Qw.1 g.inv.zero).1;refine⟨k+1,C,c4,a++[⟨x,up,r⟩],d++[p++[x]],_,hk,by simp,((hb.trans L).trans ((u.mono (by omega)).trans X)).setCell U.1 _,T,?_,?_,hN.add ⟨x,up,r⟩ h0 (zxH g.inv hN y A),by rw[Qa,QG];omega⟩
 ·rw[QU];exact z
 ·have:=g.step hk (p:=p) (f:=f) (fl:=r) (by rw[H];exact y) (by rw[H];exact O) (by rw[H];exact A) V Y (by rw[H];exact W)
  rw[H]at this;exact this
theorem zq0{w:List UInt8}{n:Nat}(h:¬n<w.length):w.take (n+1)=w.take n:=by
 rw[QC (by omega),QC (by omega)]
theorem Rel3.pass{B m p i o:Nat}{ws:List ByteArray}{n:Nat}{w:World}{a:List Nat}{f:List zaC}{b d:List (List UInt8)}{l:List (zaM × Nat)}{g cap k:Nat}{ats:List Nat}{es:List (Nat × UInt8)}{wr:World}
 (t:AtOk (lstS ws) n b a) (r:Mid (lstS ws) n b es es.length f d) (h:k<ws.length) (q:¬n<ws[k].size) (hb:Below B w wr) (hM:Mk wr B m p i o g cap (f.map nilE) l ats) (hl:ats.length=ws.length)
 (h1:∀j,j<k->d[ats.getD j 0]? = some (((lstS ws).getD j []).take (n+1))) (h2:∀j,k<=j->ats.getD j 0=a.getD j 0):Rel3 B m p i o ws n w a f d l g cap (.int .i64 ((k:Int)+1)) wr:=by
 refine⟨k+1,ats,h,by simp,hb,hM,hl,λj s=>?_,λj s=>h2 j (by omega)⟩
 rcases ZN j k with c|c
 ·exact h1 j c
 ·obtain rfl:j=k:=by omega
  have e:j<(lstS ws).length:=by rw[lstS,Qh];exact h
  rw[h2 j (Qd _),r.up (t.str j e),zq0];rw[zeG h];exact q
theorem Rel3.go{B u x m v:Nat}{ws:List ByteArray}{n:Nat}{w:World}{a:List Nat}{c:List zaC}{f o:List (List UInt8)}{l:List (zaM × Nat)}{g cap k:Nat}{ats:List Nat}{es:List (Nat × UInt8)}{wr:World}
 (A:AtOk (lstS ws) n f a) (C:EdgesOf (lstS ws) n a es) (s:Mid (lstS ws) n f es es.length c o) (D:NextOk c l) (i:k<ws.length) (y:n<ws[k].size) (hb:Below B w wr) (hM:Mk wr B u x m v g cap (c.map nilE) l ats) (hl:ats.length=ws.length)
 (h1:∀j,j<k->o[ats.getD j 0]? = some (((lstS ws).getD j []).take (n+1))) (h2:∀j,k<=j->ats.getD j 0=a.getD j 0):
 ∃q,zbK l ((ats.getD k 0:Int),ws[k][n])=some q/\q<c.length/\Rel3 B u x m v ws n w a c o l g cap (.int .i64 ((k:Int)+1)) (wr.setCell ⟨m,k,none⟩ (.int .i64 (q:Int))):=by
 have p:k<(lstS ws).length:=by rw[lstS,Qh];exact i
 have d:n<((lstS ws).getD k []).length:=by rw[zeG i];exact y
 obtain⟨q,b,r⟩:=s.go A C p d;have t:=zco d
 have E:((lstS ws).getD k []).getD n 0=ws[k][n]:=by
  rw[zeG i,Qk,Qc (by simpa using y)];rfl
 rw[E]at t;have h:=b;rw[t]at h;refine⟨q,?_,s.inv.lt b,k+1,ats.set k q,i,by simp,hb.setCell hM.base.2.2.1 _,hM.setAt k (by omega) q,by rw[Xn];exact hl,λj z=>?_,λj z=>?_⟩
 ·rw[h2 k (Qd _)]
  exact(D _ _ _).2 ((s.inv.kid r).1 h)
 ·by_cases e:j=k
  ·subst e
   rw[Qk,List.getElem?_set_self (by omega)];exact b
  ·rw[Qk,XN (XB e),<-Qk]
   exact h1 j (by omega)
 ·rw[Qk,XN (by omega),<-Qk]
  exact h2 j (by omega)
theorem Rel3.done{B i p h o:Nat}{ws:List ByteArray}{n:Nat}{w:World}{a:List Nat}{d c:List zaC}{b e:List (List UInt8)}{l:List (zaM × Nat)}{g cap:Nat}{ats:List Nat}{es:List (Nat × UInt8)}{wr:World}
 (f:Lev (lstS ws) n d b) (t:AtOk (lstS ws) n b a) (s:EdgesOf (lstS ws) n a es) (r:Mid (lstS ws) n b es es.length c e) (u:NextOk c l) (q:c.length<=400) (hb:Below B w wr) (hM:Mk wr B i p h o g cap (c.map nilE) l ats) (hl:ats.length=ws.length)
 (h1:∀j,j<ws.length->e[ats.getD j 0]? = some (((lstS ws).getD j []).take (n+1))):ziw B i p h o ws n w (.returned (.bool true)) wr:=
 ⟨hb,.inr ⟨rfl,g,cap,c,e,l,ats,hM,r.done f t s,⟨by rw[lstS,Qh];exact hl,λk m=>h1 k (by rw[lstS,Qh]at m;exact m)⟩,u,q⟩⟩
def zxt:Prop:=∀(ws:List ByteArray) (n:Nat),n<40->ws.length<=30->0<ws.length->∀(A:Option Addr) (c B a d b e g cap:Nat) (h:List zaC) (f:List (List UInt8)) (l:List (zaM × Nat)) (ats:List Nat) (w:World),
 Sl w B 1 A ws.length (ws.map Value.string)->ztR w B a d b e ws n g cap h f l ats->
 Calls prog 143 #[.pointer (some ⟨a,0,none⟩),.slice A ws.length c,.int .i64 (n:Int)] w (ziw B a d b e ws n w)
section
open Go.Sort Go.Lib
def EndsAt(w:World)(a:Nat)(s:SlT)(l:List Nat):Prop:=
 s.2.1=l.length/\(0<l.length->∃g:Nat,s.1=some ⟨g,0,none⟩/\a<=g/\g<w.heap.size/\∀j (h:j<l.length),w.cell? ⟨g,j,none⟩=some (.int .i64 (l[j]:Int)))
theorem EndsAt.keep{w w':World}{a:Nat}{s:SlT}{l:List Nat}(h:EndsAt w a s l)(i:w.heap.size<=w'.heap.size)(b:∀g,a<=g->g<w.heap.size->w'.heap[g]? = w.heap[g]?):EndsAt w' a s l:=by
 refine⟨h.1,λd=>?_⟩;obtain⟨g,e,h1,h2,f⟩:=h.2 d;refine⟨g,e,h1,by omega,λj c=>?_⟩;have:=b g h1 h2;rw[show w'.cell? ⟨g,j,none⟩=w.cell? ⟨g,j,none⟩by simp only[World.cell?, this]];exact f j c
theorem EndsAt.sl{w:World}{f:Nat}{s:SlT}{l:List Nat}(h:EndsAt w f s l):Sl w w.heap.size 1 s.1 s.2.1 (l.flatMap rowI.cells):=by
 have hl:=zaS rowI.cells 1 (λ_=>rfl) l;refine⟨by rw[hl,h.1],λi=>?_⟩;obtain⟨g,e,h1,h2,d⟩:=h.2 (by omega);refine⟨g,0,e,h2,λj c=>?_⟩;have a:j<l.length:=by omega
 have b:=zbM rowI.cells 1 (λ_=>rfl) l j 0 a (by decide);rw[show j*1+0=j by omega,Qc c]at b;rw[Zc,d j a];exact b.symm
def zfv(l:List Nat):List Nat:=((l.map λ(x:Nat)=>(x:Int)).mergeSort λx y=>decide (x<=y)).map Int.toNat
theorem zj4(l:List Nat):((l.map λ(x:Nat)=>(x:Int)).mergeSort λx y=>decide (x<=y))=(zfv l).map λ(x:Nat)=>(x:Int):=by
 unfold zfv;rw[Xu];refine(List.map_id _).symm.trans (List.map_congr_left λx b=>?_);have a:=(List.mergeSort_perm _ _).mem_iff.1 b;obtain⟨y,_,rfl⟩:=QO.1 a;simp
theorem zgv(l:List Nat):(zfv l).Perm l:=by
 have:=(List.mergeSort_perm (l.map λ(x:Nat)=>(x:Int)) λx y=>decide (x<=y)).map Int.toNat;refine this.trans ?_;rw[Xu];have:(l.map (Int.toNat ∘ λ(x:Nat)=>(x:Int)))=l:=(List.map_congr_left λx _=>by simp).trans (List.map_id l);rw[this]
theorem zmn{l:List Nat}(h:l.Nodup):(zfv l).Pairwise (·<·):=by
 have h1:((zfv l).map λ(x:Nat)=>(x:Int)).Pairwise λx y=>decide (x<=y)=true:=by
  rw[<-zj4];exact List.pairwise_mergeSort (λa b c h1 h2=>by simp at h1 h2 ⊢;omega) (λa b=>by simp;omega) _
 rw[List.pairwise_map]at h1;have h2:(zfv l).Nodup:=(zgv l).nodup_iff.2 h;have d:=List.Pairwise.and h1 (List.nodup_iff_pairwise_ne.1 h2);exact d.imp λ⟨a,b⟩=>by simp at a;omega
theorem zn4(w:World)(g n:Nat)(d:Array Int)(os:Array Obj)(_:g<w.heap.size):w.grownBy (grow (putRow (Value.int .i64) (Sort.ahead w n) g 0 d) os) (some g) where
 os:=rfl
 tape:=rfl
 output:=rfl
 size:=by show w.heap.size<=((w.heap.modify g _)++os).size;rw[Array.size_append,Array.size_modify];omega
 block i hi hne:=by
  show ((w.heap.modify g _)++os)[i]? = _
  rw[Array.getElem?_append_left (by rw[Array.size_modify];exact hi),Q8,Qe (λe=>hne (by rw[e]))]
theorem zux{w:World}{o:Nat}{s:SlT}{l:List Nat}(h:OwnG rowI w o (slV s) l)(hl:l.length<=4096):
 Calls prog 145 #[slV s] w λe w'=>e=.returned (.tuple #[])/\EndsAt w' o s (zfv l)/\∃g,w.grownBy w' (some g)/\(o<=g\/w'=w):=by
 have a:(zfv l).length=l.length:=(zgv l).length_eq
 rcases h.cases with ⟨h1,rfl⟩|⟨g,c,h1,hb,m⟩
 ·rw[h1]
  refine(slices_Sort_int_none none 0 w).mono ?_;rintro e w' ⟨rfl,rfl⟩;obtain⟨z,v,t⟩:=s;injection h1 with i d p
  dsimp only at i d p;subst i;subst d
  exact⟨rfl,⟨by rw[a];rfl,λh=>absurd h (by rw[a];simp)⟩,o,⟨rfl,rfl,rfl,Qd _,λ_ _ _=>rfl⟩,.inr rfl⟩
 ·obtain⟨z,v,t⟩:=s
  injection h1 with i d p
  dsimp only at i d p;subst i;subst d;subst p
  have r:Holds (Value.int .i64) w g 0 (l.map λ(x:Nat)=>(x:Int)).toArray:=λj k=>by
   have q:j<l.length:=by simpa using k
   have:=h.at j q 0 (by decide);rw[show j*rowI.size+0=j by simp[rowI]]at this;rw[Zc,getElem!_pos (l.map λ(x:Nat)=>(x:Int)).toArray j k];refine⟨this.1.trans ?_,this.2⟩;simp[rowI]
  have u:=slices_Sort_int g 0 t (l.map λ(x:Nat)=>(x:Int)) w r m (by rw[Qh];omega);rw[Qh]at u;unfold slV;refine u.mono ?_;rintro e w' ⟨rfl,n,os,rfl⟩;rw[zj4];have f:=zn4 w g n ((zfv l).map λ(x:Nat)=>(x:Int)).toArray os m;refine⟨rfl,⟨a.symm,λ_=>⟨g,rfl,hb,Qv m f.size,λj k=>?_⟩⟩,g,f,.inl hb⟩;have y:=holds_putRow (Value.int .i64) (Sort.ahead w n) g 0 (l.map λ(x:Nat)=>(x:Int)).toArray ((zfv l).map λ(x:Nat)=>(x:Int)).toArray (holds_ahead _ _ _ _ _ _ r) (by simp[a]);have b:=(holds_grow (Value.int .i64) _ os g 0 _ (by simpa using m) y j (by simpa using k)).1;rw[Zc]at b;rw[b,getElem!_pos ((zfv l).map λ(x:Nat)=>(x:Int)).toArray j (by simpa using k)];simp
end
theorem zsG{a w w':World}{row:Option Nat}(h:a.grownBy w row)(hb:Below a.heap.size w w'):a.grownBy w' row:=
 ⟨hb.os.trans h.os,hb.tape.trans h.tape,hb.output.trans h.output,Qn h.size hb.size,λi c b=>(hb.block i c).trans (h.block i c b)⟩
def accN(ws:List (List UInt8))(e:List Nat)(ats:List Nat)(i k:Nat):List Nat:=e++(List.range k).filter λj=>decide (ats.getD j 0=i/\0<i/\j<ws.length)
theorem zr0(ws:List (List UInt8))(e:List Nat)(ats:List Nat)(i k:Nat)(a:k<ws.length):accN ws e ats i (k+1)=if ats.getD k 0=i/\0<i then accN ws e ats i k++[k]else accN ws e ats i k:=by
 unfold accN;rw[List.range_succ,ZM,<-QH]
 by_cases h:ats.getD k 0=i/\0<i
 ·rw[Qi h,List.filter_cons,Qi (by simp only[QY];exact⟨h.1,h.2,a⟩)];rfl
 ·rw[Qe h,List.filter_cons,Qe (by simp only[QY];exact λh2=>h ⟨h2.1,h2.2.1⟩),List.filter_nil,QI]
theorem zni{ws:List (List UInt8)}(h:∀w∈ws,w≠[]):zaX ws []=[]:=by
 unfold zaX;rw[List.filter_eq_nil_iff];intro k a;rw[ZX]at a;simp only[QY,List.suffix_nil];have:ws.getD k []∈ws:=by rw[Qk,Qc a];exact Qy a
 exact h _ this
theorem ztu{ws c:List (List UInt8)}{r:List zaC}{ats:List Nat}{n i:Nat}{x:zaC}(hl:Lev ws n r c)(u:∀w∈ws,w.length<=n)(B:AtOk ws n c ats)(t:0<i)(y:r[i]? = some x):
 zfv (accN ws (zaX ws (c.getD x.fail [])) ats i ws.length)=zaX ws (c.getD i []):=by
 obtain⟨s,o⟩:∃s,c[i]? = some s:=⟨_,Qc (by rw[<-hl.inv.len];exact(Qw.1 y).1)⟩
 obtain⟨C,f,q,g⟩:=hl.inv.fail_at t y o;have A:c.getD i []=s:=by rw[Qk,o];rfl
 have z:c.getD x.fail []=f:=by rw[Qk,q];rfl
 rw[A,z]
 have p:∀k,k<ws.length->(ws.getD k []).take n=ws.getD k []:=λk j=>by
  have:ws.getD k []∈ws:=by rw[Qk,Qc j];exact Qy j
  exact QC (u _ this)
 have d:∀k,k<ws.length->(ats.getD k 0=i↔ws.getD k []=s):=λk j=>by
  have:=B.str k j;rw[p k j]at this
  constructor
  ·intro e;rw[e,o]at this;exact(QD this).symm
  ·intro e;rw[e]at this;exact hl.inv.inj this o
 have m:∀k,k∈accN ws (zaX ws f) ats i ws.length↔k∈zaX ws f\/(k<ws.length/\ws.getD k []=s):=λk=>by
  unfold accN;rw[QN,ZB,ZX,QY];refine or_congr_right ⟨λ⟨h1,h2,_,_⟩=>⟨h1,(d k h1).1 h2⟩,λ⟨h1,h2⟩=>⟨h1,(d k h1).2 h2,t,h1⟩⟩
 have l:(accN ws (zaX ws f) ats i ws.length).Nodup:=by
  unfold accN;rw[List.nodup_append];refine⟨(zcG ws f).imp λh=>Nat.ne_of_lt h,List.nodup_range.sublist List.filter_sublist,λa h1 b h2 e=>?_⟩;subst e;rw[ZB,ZX,QY]at h2;have v:=(zcN.1 h1).2;rw[(d a h2.1).1 h2.2.1]at v;exact g.2.2.1 (zjk g.2.1 v.length_le)
 refine zgt (zmn l) (zcG ws s) λk=>?_
 rw[(zgv _).mem_iff,m,zkV (Lev.words hl u) g]
structure NodesAt(ws ss:List (List UInt8))(ns:List zaC)(B lo g cap:Nat)(i:Nat)(ms:List zcK)(w:World):Prop where
 own:OwnG rowN w B (.slice (some ⟨g,0,none⟩) ms.length cap) ms
 fst:ms.map Prod.fst=ns
 done:∀j m,j<i->ms[j]? = some m->EndsAt w lo m.2 (zaX ws (ss.getD j []))
 rest:∀j m,i<=j->ms[j]? = some m->m.2=(none,0,0)
theorem EndsAt.lower{w:World}{b a:Nat}{s:SlT}{l:List Nat}(h:EndsAt w b s l)(hl:a<=b):EndsAt w a s l:=by
 refine⟨h.1,λc=>?_⟩;obtain⟨g,e,h1,h2⟩:=h.2 c;exact⟨g,e,by omega,h2⟩
structure NodeNow(ms:List zcK)(B g cap i:Nat)(w0:World)(acc:List Nat)(s:SlT)(w:World):Prop where
 row:OwnG rowI w w0.heap.size (slV s) acc
 own:OwnG rowN w B (.slice (some ⟨g,0,none⟩) ms.length cap) (ms.set i ((ms.getD i (⟨0,0,0⟩,none,0,0)).1,s))
 only:w0.grownBy w (some g)
theorem NodesAt.next{ws v:List (List UInt8)}{x:List zaC}{B r g cap i:Nat}{d:List zcK}{l w w':World}{s:SlT}{e:List Nat}(h:NodesAt ws v x B r g cap i d l)(q:i<d.length)(z:r<=l.heap.size)(G:g<r)
 (D:OwnG rowN w B (.slice (some ⟨g,0,none⟩) d.length cap) (d.set i ((d.getD i (⟨0,0,0⟩,none,0,0)).1,s))) (f:l.grownBy w (some g)) (F:EndsAt w' l.heap.size s e) (E:e=zaX ws (v.getD i [])) {A:Nat} (b:w.grownBy w' (some A)) (y:l.heap.size<=A\/w'=w):
 NodesAt ws v x B r g cap (i+1) (d.set i ((d.getD i (⟨0,0,0⟩,none,0,0)).1,s)) w'/\l.grownBy w' (some g):=by
 have a:∀j,j<l.heap.size->w'.heap[j]? = w.heap[j]? := λj o=>by
  rcases y with c|rfl
  ·exact b.block j (Qv o f.size) (λe=>by injection e with e;omega)
  ·rfl
 have C:w.heap.size<=w'.heap.size:=b.size;have t:d.getD i (⟨0,0,0⟩,none,0,0)=d[i]:=by rw[Qk,Qc q];rfl
 refine⟨⟨?_,?_,λj m o n=>?_,λj m o n=>?_⟩,⟨b.os.trans f.os,b.tape.trans f.tape,b.output.trans f.output,Qn f.size C,λj o u=>(a j o).trans (f.block j o u)⟩⟩
 ·rw[Xn]
  exact D.keep λj e=>a j (by have e:g=j:=QD e;omega)
 ·rw[List.map_set,h.fst,t]
  have:x[i]? = some d[i].1:=by rw[<-h.fst,ZW,Qc q];rfl
  refine List.ext_getElem? λj=>?_
  by_cases c:i=j
  ·subst c
   rw[List.getElem?_set_self (by rw[<-h.fst,Qh];exact q),this]
  ·rw[XN c]
 ·by_cases c:i=j
  ·subst c
   rw[List.getElem?_set_self q]at n;rw[<-QD n,<-E];exact F.lower z
  ·rw[XN c]at n
   have h1:=h.done j m (by omega) n;exact h1.keep (Qn f.size C) λk H p=>(a k p).trans (f.block k p λe=>by injection e with e;omega)
 ·rw[XN (by omega)]at n
  exact h.rest j m (by omega) n
theorem NodeNow.add{c:List zcK}{B g cap i:Nat}{l w f:World}{a:List Nat}{s:SlT}(h:NodeNow c B g cap i l a s w)(q:i<c.length)(r:g<l.heap.size){k d c4:Nat}(m:OwnG rowI f l.heap.size (.slice (some ⟨d,0,none⟩) (a++[k]).length c4) (a++[k]))(hb:Below l.heap.size w f):
 NodeNow c B g cap i l (a++[k]) (some ⟨d,0,none⟩,a.length+1,c4) (f.setCell ⟨g,i*4+3,none⟩ (.slice (some ⟨d,0,none⟩) (a.length+1) c4)):=by
 have hl:(a++[k]).length=a.length+1:=by simp
 rw[hl]at m;have p:=(m.lt d rfl).1;have h1:OwnG rowN f B (.slice (some ⟨g,0,none⟩) c.length cap) (c.set i ((c.getD i (⟨0,0,0⟩,none,0,0)).1,s)):=h.own.keep λj e=>hb.block j (by have e:g=j:=QD e;omega)
 have b:(c.set i ((c.getD i (⟨0,0,0⟩,none,0,0)).1,s)).length=c.length:=Xn ..;rw[<-b]at h1;have h2:=h1.stored i (by rw[b];exact q) 3 (by decide) (.slice (some ⟨d,0,none⟩) (a.length+1) c4) ((c.getD i (⟨0,0,0⟩,none,0,0)).1,some ⟨d,0,none⟩,a.length+1,c4) (by rw[List.getElem_set_self];rfl);refine⟨?_,?_,?_⟩
 ·exact m.keep λj e=>Ql f ⟨g,i*4+3,none⟩ _ j λn=>by injection e with e;rw[<-e]at n;have:d=g:=n;omega
 ·have o:=h2.1
  rw[List.set_set,b]at o;exact o
 ·exact zan (zsG h.only hb) _ _
theorem NodeNow.start{ws m:List (List UInt8)}{n:List zaC}{B q g cap i:Nat}{a:List zcK}{b c:World}{s:SlT}{d:List Nat}(h:NodesAt ws m n B q g cap i a b)(l:i<a.length)(r:g<b.heap.size)(k:OwnG rowI c b.heap.size (slV s) d)(hb:Below b.heap.size b c):
 NodeNow a B g cap i b d s (c.setCell ⟨g,i*4+3,none⟩ (slV s)):=by
 have h1:OwnG rowN c B (.slice (some ⟨g,0,none⟩) a.length cap) a:=h.own.keep λj e=>hb.block j (by have e:g=j:=QD e;omega)
 have f:a.getD i (⟨0,0,0⟩,none,0,0)=a[i]:=by rw[Qk,Qc l];rfl
 have h2:=h1.stored i l 3 (by decide) (slV s) ((a.getD i (⟨0,0,0⟩,none,0,0)).1,s) (by rw[f];rfl);refine⟨?_,h2.1,zan ⟨hb.os,hb.tape,hb.output,hb.size,λj p _=>hb.block j p⟩ _ _⟩
 exact k.keep λj e=>Ql c ⟨g,i*4+3,none⟩ _ j λo=>by
  have:=(k.lt j e).1;have t:j=g:=o;omega
theorem srcS{wr:World}{B n:Nat}{A:Option Addr}{c:List Value}{g:Nat->Value}(h:Sl wr B 1 A n c){j:Nat}(o:j<n)(m:∀j,j<n->c[j]? = some (g j)):
 ∃b a,A=some ⟨b,a,none⟩/\wr.cell? ⟨b,a+j,none⟩=some (g j):=by
 have hl:=h.len;obtain⟨b,a,e,_,p⟩:=h.src (by omega);have l:=m j o
 have d:∀i v,c[i]? = some v->wr.cell? ⟨b,a+i,none⟩=some v:=λi v k=>by
  have f:i<c.length:=(Qw.1 k).1;rw[p i f,<-k,Qc f]
 exact⟨b,a,e,d _ _ l⟩
theorem ztw(g:Nat)(t:Array Value)(D:∀args w,(callFunc g args).run prog w=.ok (.enter g args) w)(A:Option Addr)(n c:Nat)(r:List Value)(x:Nat->Value)(p:Nat->Bool)(w:World)
 (h:Sl w w.heap.size 1 A n r) (s:n<=9223372036854775807) (v:∀j,j<n->r[j]? = some (x j))
 (q:∀W j,j<n->Below w.heap.size w W->Calls prog g (#[x j]++t) W (zal (p j) W)):
 Calls prog 97 #[.slice A n c,.func (.func g) #[] t] w λe w'=>e=.returned (.int .i64 (hitI p n))/\Below w.heap.size w w':=by
 have B:=hIx q;have C:=hIx v;clear q v
 go_in
 go_wp2
 go_loopw [5,8] (λ_ i wr=>∃j:Nat,j<=n/\i=.int .i64 j/\Below w.heap.size w wr/\Hid (∀i,i<j->p i=false)) (λ_ i _=>n-(intOf i).toNat)
 case atStart=>exact⟨0,Qm _,rfl,Qg _ _,λi u=>absurd u (by omega)⟩
 case round=>
  obtain⟨j,E,rfl,hb,a⟩:=hrel
  by_cases d:j<n
  ·obtain⟨b,z,rfl,y⟩:=srcS (h.below hb) d C.out
   have o:=B.out wr j d hb;cases l:p j with
   |true=>
    rw[l]at o;have f:=hIx (zkn p n j d l a);clear l;go_wp2_with (go_at_fn g;refine o.mono ?_;rintro e w' ⟨rfl,k⟩);go_ret;exact⟨zac f.out.symm,hb.trans (k.mono hb.size)⟩
   |false=>
    rw[l]at o
    have m:Hid (∀i,i<j+1->p i=false):=λi u=>by
     by_cases e:i=j
     ·rw[e];exact l
     ·exact a i (by omega)
    clear l a;go_wp2_with (go_at_fn g;refine o.mono ?_;rintro e w' ⟨rfl,k⟩)
    go_roundw
    case rel=>exact⟨j+1,by omega,by go_num,hb.trans (k.mono hb.size),m⟩
    case measure=>simp[intOf] <;> omega
  ·obtain rfl:j=n:=by omega
   have f:=hIx (zdT p j a);go_wp2;go_ret;exact⟨zac f.out.symm,hb⟩
theorem zks(g:Nat)(d:Array Value)(l:∀args w,(callFunc g args).run prog w=.ok (.enter g args) w)(A:Option Addr)(n c:Nat)(b:List Value)(f:Nat->Value)(p:Nat->Bool)(w:World)
 (h:Sl w w.heap.size 1 A n b) (a:n<=9223372036854775807) (k:∀j,j<n->b[j]? = some (f j))
 (i:∀W j,j<n->Below w.heap.size w W->Calls prog g (#[f j]++d) W (zal (p j) W)):
 Calls prog 66 #[.slice A n c,.func (.func g) #[] d] w (zal (anyN p n) w):=by
 have o:=hIx (ztw g d l A n c b f p w h a k i);have m:=hIx (zgl p n);clear i k h
 go_in
 go_wp2_with fail;refine o.out.mono ?_;rintro e q ⟨rfl,hb⟩;go_wp2;go_ret;exact⟨zaI m.out,hb⟩
theorem zAp(s:ByteArray)(W:World):Calls prog 178 #[.string s] W (zal (decide (40<s.size)) W):=by
 by_cases h:40<s.size
 ·have e:decide (40<s.size)=true:=Qu h
  rw[e];clear e
  go_in
  go_wp2;go_ret;exact⟨by simp;omega,Qg _ _⟩
 ·have e:decide (40<s.size)=false:=Qs h
  rw[e];clear e
  go_in
  go_wp2;go_ret;exact⟨by simp;omega,Qg _ _⟩
def zcB(ws:List ByteArray):Nat:=
 if 30<ws.length then 2 else if anyN (λj=>decide (40<(ws.getD j ByteArray.empty).size)) ws.length then 2 else if ws.length=0 then 1 else if Lib.containsS ws ByteArray.empty then 1 else 0
theorem zjc(A:Option Addr)(c n:Nat)(ws:List ByteArray)(w:World)(o:ws.length=n)(h:Sl w w.heap.size 1 A n (ws.map Value.string)):
 Calls prog 142 #[.slice A n c] w λe w'=>e=.returned (.int .i64 (zcB ws:Nat))/\Below w.heap.size w w':=by
 by_cases g:30<n
 ·have f:Hid (zcB ws=2):=by unfold zcB;rw[Qi (by omega)];exact hIx rfl
  clear h
  go_in
  go_wp2;go_ret;exact⟨by rw[f.out];rfl,Qg _ _⟩
 ·have k:∀j,j<n->(ws.map Value.string)[j]? = some (.string (ws.getD j ByteArray.empty)):=λj r=>by
   rw[ZW,Qk,Qc (by omega)];rfl
  have f:=hIx (zks 178 #[] (enters_of func178 (by kernel_rfl) rfl) A n c (ws.map Value.string) (λj=>.string (ws.getD j ByteArray.empty)) (λj=>decide (40<(ws.getD j ByteArray.empty).size)) w h (by omega) k (λW j _ _=>zAp _ W))
  by_cases a:anyN (λj=>decide (40<(ws.getD j ByteArray.empty).size)) n=true
  ·have i:Hid (zcB ws=2):=by unfold zcB;rw[o,Qe g,Qi a];exact hIx rfl
   rw[a]at f;clear h k a
   go_in
   go_wp2_with (go_at_call 66;refine f.out.mono ?_;rintro e d ⟨rfl,hb⟩);go_ret;exact⟨by rw[i.out];rfl,hb⟩
  ·have hl:anyN (λj=>decide (40<(ws.getD j ByteArray.empty).size)) n=false:=by simpa using a
   rw[hl]at f
   by_cases l:n=0
   ·have i:Hid (zcB ws=1):=by unfold zcB;rw[o,Qe g,Qe a,Qi l];exact hIx rfl
    subst l;clear h k a hl
    go_in
    go_wp2_with (go_at_call 66;refine f.out.mono ?_;rintro e d ⟨rfl,hb⟩);go_ret;exact⟨by rw[i.out];rfl,hb⟩
   ·have p:Hid (∀d,Below w.heap.size w d->Calls prog 90 #[.slice A n c,.string ByteArray.empty] d λe w'=>e=.returned (.bool (Lib.containsS ws ByteArray.empty))/\w'=d):=hIx λd hb=>by
     obtain⟨b,m,rfl,_,t⟩:=(h.below hb).src (by rw[Qh];omega)
     have:=slices_Contains_string b m n c ws ByteArray.empty d (by omega) (by omega) (λj r=>by
      rw[t j (by rw[Qh];omega),Zd,Qk,Qc r];rfl)
     rw[QC (by omega)]at this;exact this
    have i:Hid (zcB ws=if Lib.containsS ws ByteArray.empty then 1 else 0):=by unfold zcB;rw[o,Qe g,Qe a,Qe l];exact hIx rfl
    clear h k a hl;generalize s:Lib.containsS ws ByteArray.empty=q at p i;clear s;cases q
    ·go_in
     go_wp2_with (first|(go_at_call 66;refine f.out.mono ?_;rintro e d ⟨rfl,hb⟩)|(go_at_call 90;refine(p.out _ hb).mono ?_;rintro e w2 ⟨rfl,rfl⟩));go_ret;exact⟨by rw[i.out];rfl,hb⟩
    ·go_in
     go_wp2_with (first|(go_at_call 66;refine f.out.mono ?_;rintro e d ⟨rfl,hb⟩)|(go_at_call 90;refine(p.out _ hb).mono ?_;rintro e w2 ⟨rfl,rfl⟩));go_ret;exact⟨by rw[i.out];rfl,hb⟩
theorem zgY(A:Option Addr)(c n:Nat)(ws:List ByteArray)(w:World)(b:ws.length=n)(h:Sl w w.heap.size 1 A n (ws.map Value.string))(f:zcB ws≠0):
 Calls prog 106 #[.slice A n c] w λe w'=>e=.returned (.tuple #[.slice none 0 0,.int .i64 (zcB ws:Nat)])/\Below w.heap.size w w':=by
 have a:=hIx (zjc A c n ws w b h);generalize zcB ws=r at *;clear h
 go_in
 go_wp2_with (go_at_call 142;refine a.out.mono ?_;rintro e d ⟨rfl,hb⟩)
 go_ret2
 exact⟨rfl,hb⟩
theorem zzk:(prog.info? 3).map (λi=>(i.zero,i.size,i.bytes))=some (some (.int .i64 0),1,8):=by kernel_rfl
theorem zrf(A:Option Addr)(n c:Nat)(g:List Value)(w:World)(h:Sl w w.heap.size 1 A n g)(h1:∀u∈g,u.oneCell'=true)(H:n*8<=140737488355328):
 Calls prog 144 #[.slice A n c] w (zzw 3 1 n g w):=by
 obtain⟨D,E,m,q,s⟩:=ZC zzk;have x:=λ(w:World) (a:Option Addr) (n c:Nat)=>Lib.run_eql_slice_nil (P:=prog) w 31 3 a n c 0 0 underlying31
 cases A with
 |none=>
  have hl:=h.len
  have p:g=[]:=by
   rcases ZO g.length with o|o
   ·exact QA o
   ·obtain⟨b,t,e,_⟩:=h.src o;cases e
  subst p;have v:n=0:=by simp at hl;omega
  subst v
  go_in
  go_wp2;go_ret;exact⟨_,rfl,ZI w _ 3 1,Qg _ _⟩
 |some r=>
  have f:∀j u,g[j]? = some u->w.cell? (r.add j)=some u:=λj u l=>by
   have y:=(Qw.1 l).1;obtain⟨b,t,e,_,F⟩:=h.src (by omega);injection e with e
   subst e;rw[XP,F j y,<-l,Qc y]
  have d:∀j u,g[j]? = some u->(w.alloc (.cells #[] 3)).cell? (r.add j)=some u:=λj u l=>zaa WaL (f j u l)
  have C:=hIx d;have hl:=h.len;clear h f d
  go_in
  go_wp2_with (at_builtin;refine wpList_append_own _ rfl _ _ 31 rfl w.heap.size 3 D (.int .i64 0) 1 8 underlying31 E m q s rfl (by decide) (.slice (some ⟨w.heap.size,0,none⟩) 0 0) 0 [] rfl (Xw w #[] 0 (Qd _) (by decide) (by simp)) r n c g rfl hl C.out h1 (by unfold maxLen;omega) (by omega) (by simp) ?_;intro v' G i z _);go_ret;refine⟨_,rfl,by simpa using i,WaL.grown z (by simp) (λk B=>?_)⟩;simp[Value.ownBlock]at B;omega
