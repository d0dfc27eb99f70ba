/- Part 26 of 27. -/
import Derived.Test.YtgdmfledhhoedaaGreatDoorD23
import Derived.Test.YtgdmfledhhoedaaGreatDoorD25
import Derived.Test.YtgdmfledhhoedaaGreatDoorD22
import Derived.Test.YtgdmfledhhoedaaGreatDoorD24
import Derived.Test.YtgdmfledhhoedaaGreatDoorD09
import Derived.Test.YtgdmfledhhoedaaGreatDoorD20
import Derived.Test.YtgdmfledhhoedaaGreatDoorRows
import Derived.Test.YtgdmfledhhoedaaGreatDoorD02
import Derived.Test.YtgdmfledhhoedaaGreatDoorD01
import Derived.Laws.Cover1
namespace Go.Proofs.YtgdmfledhhoedaaGreatDoor.T
set_option maxRecDepth 8000
open Go.ChangeShapes Go.WideShapes Go.ChangeAt Go.RowKit Go.Burg
open Go.Burg.Lk
open Go.Burg.Purse (St Inv)
variable {i kb km n sb sg t x:Nat} {l:Nat->Ten}
theorem TabAt.noRow {w:World} (h:TabAt 87 w x t l):NoRow w x:=fun cs T fr hk=>by
 obtain⟨cs',h1,_⟩:=h
 rw[h1] at hk
 cases hk
 exact⟨by decide,by decide⟩
variable {k tk:Int} {P P':List (Cel PNd)} {L L':List (RefK × Wd)}
theorem remove1_trie {u:Nat} (w:World) (hX:TabAt 87 w x t l) (hT:z0s w t sb sg kb km P L tk) (hU:w.heap[u]?=some (.cells #[.pointer (some ⟨x,0,none⟩)] 24 (0,0)))
 (hx:x≠sg/\x≠km) (hu:u≠sg/\u≠km) (hxt:x≠t/\x≠sb/\x≠kb) (h2:n<=16) (hs:(l n).slot=i)
 (hF:∀ w1,z0s w1 t sb sg kb km P L tk->Calls Tryz.prog 47 #[.pointer (some ⟨t,0,none⟩),.agg #[.int .i64 i,.int .u32 (l n).agen]] w1 fun e w'=>e=.returned (.tuple #[.int .i64 k,.int .i64 0])/\z0s w' t sb sg kb km P' L' tk/\Mod (TOwn sg km) w1 w') :
 Calls Tryz.prog 46 #[.pointer (some ⟨x,1+n * 4,none⟩),.pointer (some ⟨u,0,none⟩)] w fun e w'=>e=.returned (.tuple #[])/\TabAt 87 w' x t (upd l n ⟨(l n).gen,0,0,none⟩)/\z0s w' t sb sg kb km P' L' tk/\Mod (COwn x sg km) w w':=by
 have hn17:n<17:=by omega
 have HX:=hid hX
 have HT:=hid hT
 have HU:=hid hU
 have HS:=hid hs
 have HFL:=hid hF
 have HNX:Hid (¬ TOwn sg km x):=hid (fun e=>e.elim hx.1 hx.2)
 have HNU:Hid (¬ TOwn sg km u):=hid (fun e=>e.elim hu.1 hu.2)
 clear hX hT hU hs hF
 go_enter Tryz.func46,Tryz.ntmps46
 go_wp2_with fail
 refine z0f 10 (Turn 9 (fun w1=>Mod (TOwn sg km) w w1/\z0s w1 t sb sg kb km P L tk) (fun w1=>Mod (TOwn sg km) w w1/\z0s w1 t sb sg kb km P' L' tk)) (by kernel_rfl) (by kernel_rfl) (by kernel_rfl) (Turn.start ⟨(Mod.refl (TOwn sg km) w).drew,HT.out.keep ((Below.refl _ _).drew)⟩) ?_
 dsimp only[List.take]
 iterate 9
  refine Seq.calm (a':=?_) (by decide) ?_ ?_ ?_
  rotate_left
  ·intro w1 hw1
   have hM:Mod (TOwn sg km) w w1:=hw1.elim (·.1) (·.1)
   have hX1:=(HX.out.mod hM HNX.out)
   have hU1:=(hM.block u (lt_of_block HU.out) HNU.out).trans HU.out
   have u0:=cell_of hU1 0
   obtain⟨z0,zf⟩:=hX1.head
   obtain⟨c0,c1,c2,c3⟩:=hX1.cell hn17
   rw[HS.out] at c1
   clear c0 c3 hM hX1 hU1 hw1
   go_wp2_with (fail)
   refine⟨?_,id,id⟩;exact rfl
  ·kernel_rfl
 refine Seq.turn (a':=?_) ?_ ?_ ?_
 rotate_left
 ·intro w1 hw1
  have HM:=hid hw1.1
  have HT1:=hid hw1.2
  clear hw1
  go_wp2_with (go_at_call 47;refine (HFL.out _ HT1.out).mono ?_;rintro e w2 ⟨rfl,hT2,hX2⟩)
  refine⟨?_,HM.out.trans hX2 (fun _ _ h=>h),hT2⟩
  exact rfl
 ·kernel_rfl
 iterate 0
  refine Seq.calm (a':=?_) (by decide) ?_ ?_ ?_
  rotate_left
  ·intro w1 hw1
   have hM:Mod (TOwn sg km) w w1:=hw1.elim (·.1) (·.1)
   have hX1:=(HX.out.mod hM HNX.out)
   have hU1:=(hM.block u (lt_of_block HU.out) HNU.out).trans HU.out
   have u0:=cell_of hU1 0
   obtain⟨z0,zf⟩:=hX1.head
   obtain⟨c0,c1,c2,c3⟩:=hX1.cell hn17
   rw[HS.out] at c1
   clear c0 c3 hM hX1 hU1 hw1
   go_wp2_with (fail)
   refine⟨?_,id,id⟩;exact rfl
  ·kernel_rfl
 refine SeqI.nil ?_
 intro D w1 hD hI
 replace hI:=hI.done (hD 9 (by omega))
 clear hD
 dsimp only[List.drop]
 obtain⟨hM1,hT1⟩:=hI
 have hX1:=HX.out.mod hM1 HNX.out
 obtain⟨z0,zf⟩:=hX1.head
 obtain⟨c0,c1,c2,c3⟩:=hX1.cell hn17
 have HPUT:=hid (hX1.put hn17 ⟨(l n).gen,0,0,none⟩)
 have HM1:=hid hM1
 have HT1:=hid hT1
 have HNR:=hid (TabAt.noRow hX1)
 clear hM1 hT1 hX1 z0
 go_wp2
 go_end0
 have hMs:=Mod.setCell (S:=(·=x)) (p:=⟨x,1+n * 4+3,none⟩) (Mod.setCell (S:=(·=x)) (p:=⟨x,1+n * 4+2,none⟩) (Mod.setCell (S:=(·=x)) (p:=⟨x,1+n * 4+1,none⟩) (Mod.setCell (S:=(·=x)) (p:=⟨x,1+n * 4,none⟩) (Mod.refl _ w1) (.inl rfl) (.int .u32 (l n).gen)) (.inl rfl) (.int .i64 0)) (.inl rfl) (.int .u32 0)) (.inl rfl) (.pointer none)
 exact⟨rfl,HPUT.out,HT1.out.mod hMs (fun k e=>by subst e;exact HNR.out) (fun e=>hxt.1 e.symm) (fun e=>hxt.2.1 e.symm) (fun e=>hx.1 e.symm) (fun e=>hxt.2.2 e.symm) (fun e=>hx.2 e.symm),(HM1.out.mono fun _ _ h=>.inr h).trans hMs (fun _ _ h=>.inl h)⟩
theorem remove_trie {p:Nat} (w:World) (hX:TabAt 87 w x t l) (hT:z0s w t sb sg kb km P L tk)
 (hx:x≠t/\x≠sb/\x≠sg/\x≠kb/\x≠km) (h1:1<=n) (h2:n<=16) (hp:(l n).purse=some p) (hs:(l n).slot=i)
 (hF:∀ w1,z0s w1 t sb sg kb km P L tk->Calls Tryz.prog 47 #[.pointer (some ⟨t,0,none⟩),.agg #[.int .i64 i,.int .u32 (l n).agen]] w1 fun e w'=>e=.returned (.tuple #[.int .i64 k,.int .i64 0])/\z0s w' t sb sg kb km P' L' tk/\Mod (TOwn sg km) w1 w') :
 Calls Tryz.prog 16 #[.pointer (some ⟨x,0,none⟩),.int .i64 n] w fun e w'=>e=.returned (.int .i64 0)/\TabAt 87 w' x t (upd l n ⟨(l n).gen,0,0,none⟩)/\z0s w' t sb sg kb km P' L' tk/\Mod (COwn x sg km) w w':=by
 have hU:=z0a w (.cells #[.pointer (some ⟨x,0,none⟩)] 24 (0,0))
 have hsz:w.heap.size≠sg/\w.heap.size≠km:=by obtain⟨_,a,_⟩:=hT;have:=a.hs.glt;have:=a.hk.lt.2;omega
 have hB:Below w.heap.size w (w.alloc (.cells #[.pointer (some ⟨x,0,none⟩)] 24 (0,0))):=(Below.refl _ _).alloc (Nat.le_refl _) _
 have HI:=hid (remove1_trie _ (hX.alloc (.cells #[.pointer (some ⟨x,0,none⟩)] 24 (0,0))) (hT.keep hB) hU ⟨hx.2.2.1,hx.2.2.2.2⟩ hsz ⟨hx.1,hx.2.1,hx.2.2.2.1⟩ h2 hs hF)
 have HO:Hid (Calls Tryz.prog 23 #[.pointer (some ⟨x,0,none⟩),.int .i64 n,.func (.func 46) #[] #[.pointer (some ⟨w.heap.size,0,none⟩)]] (w.alloc (.cells #[.pointer (some ⟨x,0,none⟩)] 24 (0,0))) fun e w'=>e=.returned (.int .i64 0)/\TabAt 87 w' x t (upd l n ⟨(l n).gen,0,0,none⟩)/\z0s w' t sb sg kb km P' L' tk/\Mod (COwn x sg km) (w.alloc (.cells #[.pointer (some ⟨x,0,none⟩)] 24 (0,0))) w'):=by
  have h:=hX.alloc (.cells #[.pointer (some ⟨x,0,none⟩)] 24 (0,0))
  generalize w.alloc (.cells #[.pointer (some ⟨x,0,none⟩)] 24 (0,0))=w at *
  clear hX hT hs hU hB hF
  refine hid ?_
  have HT:=hid (z1i w h)
  obtain⟨_,cf⟩:=h.head
  obtain⟨c0,c1,c2,c3⟩:=h.cell (show n<17 by omega)
  rw[hp] at c3
  simp only[Option.map_some] at c3
  clear c0 c1 c2 hp
  have g1:decide ((n:Int)<1)=false:=by simp;omega
  have g2:decide ((n:Int) > 16)=false:=by simp;omega
  go_enter Tryz.func23,Tryz.ntmps23
  go_wp2_with (first|(go_at_call 55;refine HT.out.mono ?_;rintro e w2 ⟨rfl,rfl⟩)|(go_at_call 46;refine HI.out.mono ?_;rintro e w2 ⟨rfl,hC,hT,hM⟩))
  go_ret
  exact⟨rfl,hC,hT,hM⟩
 have hu0:=cell_of hU 0
 have HB:=hid hB
 clear hp hX hT hs HI hU hB hF
 go_enter Tryz.func16,Tryz.ntmps16
 go_wp2_with (go_at_call 23;refine HO.out.mono ?_;rintro e w2 ⟨rfl,hC,hT,hM⟩)
 go_ret
 exact⟨rfl,hC,hT,(Mod.z0j HB.out).trans hM (fun _ _ h=>h)⟩
end Go.Proofs.YtgdmfledhhoedaaGreatDoor.T
namespace Go.Burg
open Go Go.RowKit
def NoTen (l:Nat->Ten) (n:Int):Prop:=(n<1\/16<n)\/∃ k:Nat,n=k/\1<=k/\k<=16/\(l k).purse=none
theorem ten_cases (l:Nat->Ten) (n:Int):NoTen l n\/∃ (k p:Nat),n=(k:Int)/\1<=k/\k<=16/\(l k).purse=some p:=by
 by_cases h:n<1\/16<n
 ·exact .inl (.inl h)
 ·obtain⟨k,rfl⟩:∃ k:Nat,n=k:=⟨n.toNat,by omega⟩
  cases hp:(l k).purse with
  | none=>exact .inl (.inr ⟨k,rfl,by omega,by omega,hp⟩)
  | some p=>exact .inr ⟨k,p,rfl,by omega,by omega,hp⟩
end Go.Burg
namespace Go.Proofs.YtgdmfledhhoedaaGreatDoor.T
set_option maxRecDepth 8000
open Go.ChangeShapes Go.WideShapes Go.ChangeAt Go.RowKit Go.Burg
variable {t x:Nat} {l:Nat->Ten}
theorem of_no (n:Int) (w:World) (h:TabAt 87 w x t l) (hn:NoTen l n) :
 ∃ r:Int,(r=2\/r=5)/\∀ f,Calls Tryz.prog 23 #[.pointer (some ⟨x,0,none⟩),.int .i64 n,f] w fun e w'=>e=.returned (.int .i64 r)/\w=w':=by
 rcases hn with hn|⟨k,rfl,h1,h2,hp⟩
 ·exact⟨2,.inl rfl,fun f=>of_arg n f w h hn⟩
 ·exact⟨5,.inr rfl,fun f=>of_none f w h h1 h2 hp⟩
theorem remove_no (n:Int) (w:World) (h:TabAt 87 w x t l) (hn:NoTen l n) :
 Calls Tryz.prog 16 #[.pointer (some ⟨x,0,none⟩),.int .i64 n] w fun e w'=>(∃ r,e=.returned (.int .i64 r))/\Below w.heap.size w w':=by
 have hu0:=cell_of (z0a w (.cells #[.pointer (some ⟨x,0,none⟩)] 24 (0,0))) 0
 obtain⟨r,_,HO⟩:=of_no n _ (h.alloc (.cells #[.pointer (some ⟨x,0,none⟩)] 24 (0,0))) hn
 have HO:=hid HO
 clear h hn
 go_enter Tryz.func16,Tryz.ntmps16
 go_wp2_with (go_at_call 23;refine (HO.out _).mono ?_;rintro e w2 ⟨rfl,rfl⟩)
 go_ret
 exact⟨⟨r,rfl⟩,(Below.refl _ _).alloc (Nat.le_refl _) _⟩
theorem revoke_no (n:Int) (w:World) (h:TabAt 87 w x t l) (hn:NoTen l n) :
 Calls Tryz.prog 17 #[.pointer (some ⟨x,0,none⟩),.int .i64 n] w fun e w'=>(∃ r,e=.returned (.int .i64 r))/\Below w.heap.size w w':=by
 obtain⟨r,_,HO⟩:=of_no n _ h hn
 have HO:=hid HO
 clear h hn
 go_enter Tryz.func17,Tryz.ntmps17
 go_wp2_with (go_at_call 23;refine (HO.out _).mono ?_;rintro e w2 ⟨rfl,rfl⟩)
 go_ret
 exact⟨⟨r,rfl⟩,Below.refl _ _⟩
theorem create_arg (n mk mb:Int) (w:World) (h:TabAt 87 w x t l) (hn:n<1\/16<n) :
 Calls Tryz.prog 6 #[.pointer (some ⟨x,0,none⟩),.int .i64 n,.agg #[.int .u64 mk,.int .u64 mb]] w fun e w'=>e=.returned (.int .i64 2)/\Below w.heap.size w w':=by
 have HO:=hid (fun f=>of_arg n f _ (h.alloc (.cells #[.int .u64 mk,.int .u64 mb] 33 (0,0))) hn)
 clear h hn
 go_enter Tryz.func6,Tryz.ntmps6
 go_wp2_with (go_at_call 23;refine (HO.out _).mono ?_;rintro e w2 ⟨rfl,rfl⟩)
 go_ret
 exact⟨rfl,(Below.refl _ _).alloc (Nat.le_refl _) _⟩
theorem anchor_no (n:Int) (w:World) (h:TabAt 87 w x t l) (hn:NoTen l n) :
 Calls Tryz.prog 7 #[.pointer (some ⟨x,0,none⟩),.int .i64 n] w fun e w'=>e=.returned (.tuple #[.agg #[.int .i64 0,.int .u32 0],.bool false])/\Below w.heap.size w w':=by
 have hc:=z0a w (.cells #[.int .i64 0,.int .u32 0] 36 (0,0))
 have k0:=cell_of hc 0
 have k1:=cell_of hc 1
 have kf:=z0e hc
 obtain⟨r,hr,HO⟩:=of_no n _ (h.alloc (.cells #[.int .i64 0,.int .u32 0] 36 (0,0))) hn
 have HO:=hid HO
 have hB:Below w.heap.size w (w.alloc (.cells #[.int .i64 0,.int .u32 0] 36 (0,0))):=(Below.refl _ _).alloc (Nat.le_refl _) _
 have HB:=hid hB
 clear h hn hc hB
 rcases hr with rfl|rfl
 all_goals
  go_enter Tryz.func7,Tryz.ntmps7
  go_wp2_with (go_at_call 23;refine (HO.out _).mono ?_;rintro e w2 ⟨rfl,rfl⟩)
  refine bodyPost_ret (v:=.tuple #[.agg #[_,_],_]) (by simp[results,Tryz.results7,go_sem,k0,k1]) rfl ⟨rfl,?_⟩
  have hB:=HB.out
  (repeat (first|exact Below.refl _ _|assumption|with_reducible refine Below.drew ?_|with_reducible refine below_drewN ?_|with_reducible refine Below.setCell ?_ (by first|(simp;done)|(simp;omega)) _|with_reducible refine Below.alloc ?_ (by first|exact Nat.le_refl _|(simp;done)|(simp;omega)) _))
theorem issue_no (n r:Int) (w:World) (h:TabAt 87 w x t l) (hn:NoTen l n) (hr1:1<=r) (hr2:r<=7) :
 Calls Tryz.prog 12 #[.pointer (some ⟨x,0,none⟩),.int .i64 n,.int .u8 r] w fun e w'=>(∃ v:Int,v≠0/\e=.returned (.tuple #[.agg #[.int .i64 0,.int .u32 0,.int .u8 0],.int .i64 v]))/\Below w.heap.size w w':=by
 have k1:=z0a w (.cells #[.int .i64 n] 3 (0,0))
 have k2:=z0a (w.alloc (.cells #[.int .i64 n] 3 (0,0))) (.cells #[.int .u8 r] 49 (0,0))
 have k3:=z0a ((w.alloc (.cells #[.int .i64 n] 3 (0,0))).alloc (.cells #[.int .u8 r] 49 (0,0))) (.cells #[.int .i64 0,.int .u32 0,.int .u8 0] 51 (0,0))
 rw[show (w.alloc (.cells #[.int .i64 n] 3 (0,0))).heap.size=w.heap.size+1 by simp] at k2
 rw[show ((w.alloc (.cells #[.int .i64 n] 3 (0,0))).alloc (.cells #[.int .u8 r] 49 (0,0))).heap.size=w.heap.size+1+1 by simp] at k3
 have j1:=z0c (o':=(.cells #[.int .i64 0,.int .u32 0,.int .u8 0] 51 (0,0))) (z0c (o':=(.cells #[.int .u8 r] 49 (0,0))) k1)
 have j2:=z0c (o':=(.cells #[.int .i64 0,.int .u32 0,.int .u8 0] 51 (0,0))) k2
 have n0:=cell_of j1 0
 have b0:=cell_of j2 0
 have q0:=cell_of k3 0
 have q1:=cell_of k3 1
 have q2:=cell_of k3 2
 have qf:=z0e k3
 obtain⟨v,hv,HO⟩:=of_no n _ (((h.alloc (.cells #[.int .i64 n] 3 (0,0))).alloc (.cells #[.int .u8 r] 49 (0,0))).alloc (.cells #[.int .i64 0,.int .u32 0,.int .u8 0] 51 (0,0))) hn
 have HO:=hid HO
 have hb0:Hid (Below w.heap.size w (((w.alloc (.cells #[.int .i64 n] 3 (0,0))).alloc (.cells #[.int .u8 r] 49 (0,0))).alloc (.cells #[.int .i64 0,.int .u32 0,.int .u8 0] 51 (0,0)))):=hid ((((Below.refl _ _).alloc (Nat.le_refl _) _).alloc (by simp) _).alloc (by simp;omega) _)
 have g1:decide (r<1)=false:=by simp;omega
 have g2:decide (r > 7)=false:=by simp;omega
 clear h hn k1 k2 k3 j1 j2
 have HE:Hid ((∃ u:Int,u≠0/\Ending.returned (.tuple #[.agg #[.int .i64 0,.int .u32 0,.int .u8 0],.int .i64 v])=Ending.returned (.tuple #[.agg #[.int .i64 0,.int .u32 0,.int .u8 0],.int .i64 u]))):=hid ⟨v,by omega,rfl⟩
 rcases hv with rfl|rfl
 ·go_enter Tryz.func12,Tryz.ntmps12
  go_wp2_with (go_at_call 23;refine (HO.out _).mono ?_;rintro e w2 ⟨rfl,rfl⟩)
  refine bodyPost_ret (v:=.tuple #[.agg #[_,_,_],.int .i64 2]) (by simp[results,Tryz.results12,go_sem,q0,q1,q2]) rfl ⟨HE.out,?_⟩
  have hB:=hb0.out
  (repeat (first|exact Below.refl _ _|assumption|with_reducible refine Below.drew ?_|with_reducible refine below_drewN ?_|with_reducible refine Below.setCell ?_ (by first|(simp;done)|(simp;omega)) _|with_reducible refine Below.alloc ?_ (by first|exact Nat.le_refl _|(simp;done)|(simp;omega)) _))
 ·go_enter Tryz.func12,Tryz.ntmps12
  go_wp2_with (go_at_call 23;refine (HO.out _).mono ?_;rintro e w2 ⟨rfl,rfl⟩)
  refine bodyPost_ret (v:=.tuple #[.agg #[_,_,_],.int .i64 5]) (by simp[results,Tryz.results12,go_sem,q0,q1,q2]) rfl ⟨HE.out,?_⟩
  have hB:=hb0.out
  (repeat (first|exact Below.refl _ _|assumption|with_reducible refine Below.drew ?_|with_reducible refine below_drewN ?_|with_reducible refine Below.setCell ?_ (by first|(simp;done)|(simp;omega)) _|with_reducible refine Below.alloc ?_ (by first|exact Nat.le_refl _|(simp;done)|(simp;omega)) _))
end Go.Proofs.YtgdmfledhhoedaaGreatDoor.T
namespace Go.Burg
open Go Go.RowKit
variable {E:Ents}
theorem Up.last (h:Up E) {pre:Ents} {a b:ByteArray × ByteArray} (hp:pre++[a]++[b] <+: E):LtB (byt a.1) (byt b.1):=by
 obtain⟨t,rfl⟩:=hp
 unfold Up at h
 rw[List.append_assoc,List.append_assoc,List.pairwise_append] at h
 have:=h.2.1
 simp only[List.singleton_append,List.cons_append,List.nil_append] at this
 exact (List.pairwise_cons.1 this).1 b (List.mem_cons_self ..)
structure Wants (lt:Nat->Ten) (Es:Nat->Ents) (W:List (ByteArray × Bool)):Prop where
 nd:(W.map Prod.fst).Nodup
 tr:∀ x∈W,x.2=true
 is:∀ s,s∈W.map Prod.fst ↔ ∃ e,e∈z0t lt Es/\e.1=s
theorem Up.nodup (h:Up E):(E.map Prod.fst).Nodup:=by
 unfold Up at h
 rw[List.Nodup,List.pairwise_map]
 refine h.imp ?_
 intro a b hab e
 rw[e] at hab
 exact hab.irrefl
variable {lt:Nat->Ten}
theorem Wants.len {Es:Nat->Ents} {W:List (ByteArray × Bool)} (h:Wants lt Es W) (hu:Up (z0t lt Es)):W.length=(z0t lt Es).length:=by
 have h1:(W.map Prod.fst).Perm ((z0t lt Es).map Prod.fst):=by
  rw[List.perm_ext_iff_of_nodup h.nd hu.nodup]
  intro s
  rw[h.is s,List.mem_map]
 simpa using h1.length_eq
theorem Wants.get {Es:Nat->Ents} {W:List (ByteArray × Bool)} (h:Wants lt Es W) {e:ByteArray × ByteArray} (he:e∈z0t lt Es):@List.lookup ByteArray Bool instBEqOfDecidableEq e.1 W=some true:=by
 obtain⟨x,hx,hx2⟩:=List.mem_map.1 ((h.is e.1).2 ⟨e,he,rfl⟩)
 obtain⟨j,hj⟩:=List.getElem?_of_mem hx
 have e1:x=(e.1,true):=Prod.ext hx2 (h.tr x hx)
 rw[e1] at hj
 exact lookup_at h.nd hj
variable {k:ByteArray}
theorem mem_set {W:List (ByteArray × Bool)} (s:ByteArray):s∈(setKV W k true).map Prod.fst ↔ s=k\/s∈W.map Prod.fst:=by
 unfold setKV
 split
 ·rename_i hs
  have hk:k∈W.map Prod.fst:=by
   obtain⟨v,hv⟩:=Option.isSome_iff_exists.1 hs
   refine Classical.byContradiction fun hn=>?_
   have:@List.lookup ByteArray Bool instBEqOfDecidableEq k W=none:=lookup_none.2 (fun x hx e=>hn (List.mem_map.2 ⟨x,hx,e⟩))
   rw[this] at hv
   cases hv
  have e:(W.map fun x=>if x.1=k then (k,true) else x).map Prod.fst=W.map Prod.fst:=by
   rw[List.map_map]
   refine List.map_congr_left fun x _=>?_
   simp only[Function.comp]
   split
   ·rename_i h;exact h.symm
   ·rfl
  rw[e]
  exact⟨fun h=>.inr h,fun h=>h.elim (fun h=>h ▸ hk) id⟩
 ·rw[List.map_append]
  simp[or_comm]
theorem tr_set {W:List (ByteArray × Bool)} (h:∀ x∈W,x.2=true):∀ x∈setKV W k true,x.2=true:=by
 unfold setKV
 split
 ·intro x hx
  obtain⟨y,hy,rfl⟩:=List.mem_map.1 hx
  split
  ·rfl
  ·exact h y hy
 ·intro x hx
  rcases List.mem_append.1 hx with hx|hx
  ·exact h x hx
  ·simp at hx
   rw[hx]
theorem Wants.put {Es Es':Nat->Ents} {W:List (ByteArray × Bool)} (h:Wants lt Es W) {n:Nat} {c v:ByteArray} (hn:n∈tens lt 16) (he:Es'=updF Es n (Es' n)) (hp:PutE (Es n) (Es' n) c v):Wants lt Es' (setKV W (z2u n++c) true):=by
 refine⟨nodup_set h.nd,tr_set h.tr,fun s=>?_⟩
 rw[mem_set,h.is s]
 unfold z0t
 simp only[List.mem_flatMap]
 have hm:∀ e,e∈Es' n ↔ e=(c,v)\/(e∈Es n/\e.1≠c):=fun e=>by
  rw[hp.mem_iff,List.mem_cons,List.mem_filter]
  simp
 constructor
 ·rintro (rfl|⟨e,⟨m,h1,h2⟩,rfl⟩)
  ·exact⟨(z2u n++c,v),⟨n,hn,List.mem_map.2 ⟨(c,v),(hm _).2 (.inl rfl),rfl⟩⟩,rfl⟩
  ·obtain⟨e0,h3,rfl⟩:=List.mem_map.1 h2
   by_cases hmn:m=n
   ·subst hmn
    by_cases hc:e0.1=c
    ·exact⟨(z2u m++c,v),⟨m,hn,List.mem_map.2 ⟨(c,v),(hm _).2 (.inl rfl),rfl⟩⟩,by rw[hc]⟩
    ·exact⟨_,⟨m,h1,List.mem_map.2 ⟨e0,(hm _).2 (.inr ⟨h3,hc⟩),rfl⟩⟩,rfl⟩
   ·exact⟨_,⟨m,h1,List.mem_map.2 ⟨e0,by rw[he,z1l _ _ hmn];exact h3,rfl⟩⟩,rfl⟩
 ·rintro ⟨e,⟨m,h1,h2⟩,rfl⟩
  obtain⟨e0,h3,rfl⟩:=List.mem_map.1 h2
  by_cases hmn:m=n
  ·subst hmn
   rcases (hm e0).1 h3 with rfl|⟨h4,_⟩
   ·exact .inl rfl
   ·exact .inr ⟨_,⟨m,h1,List.mem_map.2 ⟨e0,h4,rfl⟩⟩,rfl⟩
  ·rw[he,z1l _ _ hmn] at h3
   exact .inr ⟨_,⟨m,h1,List.mem_map.2 ⟨e0,h3,rfl⟩⟩,rfl⟩
theorem Wants.z1h {Es:Nat->Ents} {W:List (ByteArray × Bool)} (h:Wants lt Es W) {n:Nat} {d:Ten} (hp:(lt n).purse=none):Wants (upd lt n d) (updF Es n []) W:=by
 refine⟨h.nd,h.tr,fun s=>?_⟩
 rw[h.is s]
 unfold z0t
 simp only[List.mem_flatMap]
 have hne:∀ m,m∈tens lt 16->m≠n:=fun m hm e=>by
  subst e
  have:=(z2d.1 hm).2.2
  rw[hp] at this
  cases this
 constructor
 ·rintro ⟨e,⟨m,h1,h2⟩,rfl⟩
  have hmn:=hne m h1
  refine⟨e,⟨m,z2d.2 ?_,by rw[z1l _ _ hmn];exact h2⟩,rfl⟩
  rw[show upd lt n d m=lt m from if_neg hmn]
  exact z2d.1 h1
 ·rintro ⟨e,⟨m,h1,h2⟩,rfl⟩
  by_cases hmn:m=n
  ·subst hmn
   rw[z1k] at h2
   simp[z1d] at h2
  ·rw[z1l _ _ hmn] at h2
   refine⟨e,⟨m,z2d.2 ?_,h2⟩,rfl⟩
   have:=z2d.1 h1
   rwa [show upd lt n d m=lt m from if_neg hmn] at this
end Go.Burg
namespace Go.Proofs.YtgdmfledhhoedaaGreatDoor.T
set_option maxRecDepth 8000
open Go.ChangeShapes Go.WideShapes Go.ChangeAt Go.RowKit Go.Burg
open Go.Burg.Lk
theorem fresh_at (n:Nat) (w:World) (h1:1<=n) (h2:n<=4096) :
 Calls Tryz.prog 5 #[.int .i64 n] w fun e w'=>∃ x t sb sg kb km,e=.returned (.tuple #[.pointer (some ⟨x,0,none⟩),.pointer (some ⟨t,0,none⟩)])/\TabAt 87 w' x t (fun _=>Ten.zero)/\TreeAt w' t sb sg kb km (List.replicate n ⟨false,Nd.zero,0⟩) [] 0/\(w.heap.size<=x/\w.heap.size<=t/\w.heap.size<=sb/\w.heap.size<=sg/\w.heap.size<=kb/\w.heap.size<=km)/\(x≠t/\x≠sb/\x≠sg/\x≠kb/\x≠km)/\Below w.heap.size w w':=by
 have HS:=hid (tNew_at n w h1 h2)
 have HK:=hid (fun t w=>tabNew_at t w)
 go_enter Tryz.func5,Tryz.ntmps5
 go_wp2_with (first|(go_at_call 21;refine HS.out.mono ?_;rintro e w2 ⟨t,sb,sg,kb,km,rfl,hT,hl,hB2⟩;have hT:=hid hT;have hl:=hid hl;have hB2:=hid hB2)|(go_at_call 22;refine (HK.out _ _).mono ?_;rintro e w3 ⟨x,rfl,hX,hx,hB3⟩;have hX:=hid hX;have hx:=hid hx;have hB3:=hid hB3))
 go_ret2
 have hl:=hl.out
 have hx:=hx.out
 have g1:=lt_of_block hT.out.ht
 have g2:=hT.out.hs.blt
 have g3:=hT.out.hs.glt
 have g4:=hT.out.hk.lt
 have g5:=hB2.out.size
 exact⟨x,t,sb,sg,kb,km,rfl,hX.out,hT.out.keep hB3.out,by omega,by omega,z0d hB2.out hB3.out hB2.out.size⟩
end Go.Proofs.YtgdmfledhhoedaaGreatDoor.T
namespace Go.Burg
open Go Go.RowKit
def vB:ByteArray:=⟨#[118]⟩
structure PSt where
 lt:Nat->Ten
 an:Nat->Nat
 Zs:Nat->Nat->Prop
 Es:Nat->Ents
 P:List (Cel PNd)
 W:List (ByteArray × Bool)
structure PI (s:PSt) (r:Nat):Prop where
 tens:Tens s.P s.lt s.an s.Zs s.Es
 gen0:∀ n,(s.lt n).purse=none->(s.lt n).gen=0
 len:s.P.length=200
 gok:GenOk s.P
 room:200<=z1j s.P+r
 val:∀ n e,e∈s.Es n->e.2=vB
 want:Wants s.lt s.Es s.W
 wl:s.W.length<=r
def PSt.start:PSt:=⟨fun _=>Ten.zero,fun _=>0,fun _ _=>False,fun _=>[],List.replicate 200 ⟨false,zeroP,0⟩,[]⟩
theorem tens_zero (k:Nat):tens (fun _=>Ten.zero) k=[]:=by
 unfold tens
 rw[List.filter_eq_nil_iff]
 intro a _ h
 cases h
theorem room_rep {α:Type} (n:Nat) (x:α):z1j (List.replicate n (⟨false,x,0⟩:Cel α))=n:=by
 have h:(⟨false,x,0⟩:Cel α).room=true:=rfl
 unfold z1j
 rw[List.filter_replicate,if_pos h,List.length_replicate]
theorem PI.start:PI PSt.start 0:=by
 refine⟨⟨fun n p h=>(by cases h),fun n _=>⟨fun _ h=>h,rfl⟩,fun _ _ _ _ h=>h.elim⟩,fun _ _=>rfl,List.length_replicate ..,fun p hp=>?_,?_,fun n e h=>(by cases h),?_,?_⟩
 ·have:=(List.mem_replicate.1 hp).2
  subst this
  simp
 ·show 200<=z1j (List.replicate 200 _)+0
  rw[room_rep]
  exact Nat.le_refl _
 ·refine⟨List.nodup_nil,fun x hx=>(by cases hx),fun s=>?_⟩
  simp[PSt.start,z0t,tens_zero]
 ·exact Nat.le_refl _
theorem set_len {W:List (ByteArray × Bool)} {k:ByteArray}:(setKV W k true).length<=W.length+1:=by
 unfold setKV
 split<;>simp
variable {r:Nat}
theorem PI.more {s:PSt} {r':Nat} (h:PI s r) (hr:r<=r'):PI s r':=⟨h.tens,h.gen0,h.len,h.gok,by have:=h.room;omega,h.val,h.want,by have:=h.wl;omega⟩
theorem PI.first {s:PSt} (h:PI s r) (hr:r<200):∃ (j:Nat) (pj:Cel PNd),z2s s.P (j:Int)/\s.P[j]?=some pj/\pj.room=true/\j<200/\0<=pj.gen/\pj.gen<4294967295:=by
 obtain⟨j,pj,h1,h2,h3⟩:=first_ex (P:=s.P) (by have:=h.room;omega)
 exact⟨j,pj,h1,h2,h3,by have:=(List.getElem?_eq_some_iff.1 h2).1;rw[h.len] at this;exact this,h.gok.at h2,by
  unfold Cel.room at h3
  simp at h3
  exact h3.2⟩
theorem PI.z1h {s:PSt} {r n j p:Nat} {pj:Cel PNd} (h:PI s r) (hp:(s.lt n).purse=none) (hj:s.P[j]?=some pj) (hr:pj.room=true) :
 PI ⟨upd s.lt n ⟨(s.lt n).gen+1,j,pj.gen+1,some p⟩,updF s.an n j,updF s.Zs n (·=j),updF s.Es n [],s.P.set j ⟨true,⟨.z0k 5 ⟨#[]⟩ [],true,false⟩,pj.gen+1⟩,s.W⟩ (r+1):=by
 have hc:=Chg.take hj hr ⟨.z0k 5 ⟨#[]⟩ [],true,false⟩
 refine⟨h.tens.z1h hp hj hr,fun m hm=>?_,by rw[<- h.len];exact hc.len,hc.gen h.gok,?_,fun m e he=>?_,h.want.z1h hp,by have:=h.wl;simp only;omega⟩
 ·by_cases e:m=n
  ·subst e;simp[upd] at hm
  ·simp only[upd,if_neg e] at hm ⊢
   exact h.gen0 m hm
 ·have:=hc.room
  have:=h.room
  simp only
  omega
 ·by_cases e':m=n
  ·subst e'
   simp only[updF,if_pos] at he
   cases he
  ·simp only[updF,if_neg e'] at he
   exact h.val m e he
theorem PI.put {s:PSt} {r n p:Nat} (h:PI s r) (h1:1<=n) (h2:n<=16) (hp:(s.lt n).purse=some p) {P':List (Cel PNd)} {S':Nat->Prop} {E':Ents} {c:ByteArray} (hR:PutR s.P P' (s.an n) (s.lt n).agen (s.Zs n) S' (s.Es n) E' c vB) (hC:Chg s.P P' 2) :
 PI ⟨s.lt,s.an,updF s.Zs n S',updF s.Es n E',P',setKV s.W (z2u n++c) true⟩ (r+2):=by
 refine⟨h.tens.put hp hR,h.gen0,by rw[<- h.len];exact hC.len,hC.gen h.gok,?_,fun m e he=>?_,?_,by have:=h.wl;have:=set_len (W:=s.W) (k:=z2u n++c);simp only;omega⟩
 ·have:=hC.room
  have:=h.room
  simp only
  omega
 ·by_cases e':m=n
  ·subst e'
   simp only[updF,if_pos] at he
   have:=(hR.ent.mem_iff).1 he
   rw[List.mem_cons] at this
   rcases this with rfl|h3
   ·rfl
   ·exact h.val m e (List.mem_filter.1 h3).1
  ·simp only[updF,if_neg e'] at he
   exact h.val m e he
 ·refine h.want.put (n:=n) (v:=vB) (z2d.2 ⟨h1,h2,by rw[hp];rfl⟩) ?_ ?_
  ·funext m
   by_cases e:m=n
   ·subst e;simp[updF]
   ·simp[updF,e]
  ·simp only[updF,if_pos]
   exact hR.ent
end Go.Burg
namespace Go.Proofs.YtgdmfledhhoedaaGreatDoor.T
set_option maxRecDepth 8000
open Go.ChangeShapes Go.WideShapes Go.ChangeAt Go.RowKit Go.Burg
open Go.Burg.Lk
def ElAt (w:World) (a:Option Addr) (len:Nat) (f:Nat->Value):Prop:=0<len->∃ bl off,a=some ⟨bl,off,none⟩/\bl<w.heap.size/\∀ i,i<len->w.cell? ⟨bl,off+i,none⟩=some (f i)
theorem ElAt.get {w wr:World} {a:Option Addr} {len:Nat} {f:Nat->Value} (h:ElAt w a len f) (hb:Below w.heap.size w wr) {i:Nat} (hi:i<len):∃ bl off,a=some ⟨bl,off,none⟩/\wr.cell? ⟨bl,off+i,none⟩=some (f i):=by
 obtain⟨bl,off,h1,h2,h3⟩:=h (by omega)
 exact⟨bl,off,h1,(World.cell?_of_block (w:=w) (hb.block bl h2)).trans (h3 i hi)⟩
structure PW (w:World) (rb x t sb sg kb km mb m:Nat) (L:List (RefK × Wd)) (s:PSt) (W:World):Prop where
 rb:W.heap[rb]?=some (.cells #[.bool false] 4 (0,0))
 mb:W.heap[mb]?=some (.cells #[.map (some m)] 28 (0,0))
 mp:z0q Value.string Value.bool W m s.W
 tb:TabAt 87 W x t s.lt
 tp:z0s W t sb sg kb km s.P L 0
 md:Below w.heap.size w W
structure PD (w:World) (rb x t sb sg kb km mb m:Nat):Prop where
 lo:w.heap.size<=rb/\w.heap.size<=x/\w.heap.size<=t/\w.heap.size<=sb/\w.heap.size<=sg/\w.heap.size<=kb/\w.heap.size<=km/\w.heap.size<=mb/\w.heap.size<=m
 xx:x≠t/\x≠sb/\x≠sg/\x≠kb/\x≠km
 rr:rb≠x/\rb≠sg/\rb≠km/\rb≠m
 bb:mb≠x/\mb≠sg/\mb≠km/\mb≠m
 mm:m≠x/\m≠t/\m≠sb/\m≠sg/\m≠kb/\m≠km
section
variable {w W W':World} {rb x t sb sg kb km mb m:Nat} {L L':List (RefK × Wd)} {s s':PSt}
theorem z2h {S:Nat->Prop} (h:Below w.heap.size w W) (hM:Mod S W W') (hS:∀ k,S k->w.heap.size<=k):Below w.heap.size w W' :=
 ⟨hM.os.trans h.os,hM.tape.trans h.tape,hM.output.trans h.output,Nat.le_trans h.size hM.size,fun j hj=>(hM.block j (Nat.lt_of_lt_of_le hj h.size) (fun e=>by have:=hS j e;omega)).trans (h.block j hj)⟩
theorem PW.keep (h:PW w rb x t sb sg kb km mb m L s W) (hb:Below W.heap.size W W'):PW w rb x t sb sg kb km mb m L s W' :=
 ⟨z0b h.rb hb (lt_of_block h.rb),z0b h.mb hb (lt_of_block h.mb),h.mp.below hb h.mp.lt,h.tb.keep hb,h.tp.keep hb,h.md.trans (hb.mono h.md.size)⟩
theorem PW.tree (h:PW w rb x t sb sg kb km mb m L s W) (hd:PD w rb x t sb sg kb km mb m) {P':List (Cel PNd)} (hT:z0s W' t sb sg kb km P' L' 0) (hM:Mod (TOwn sg km) W W') (e1:s'.lt=s.lt) (e2:s'.P=P') (e3:s'.W=s.W):PW w rb x t sb sg kb km mb m L' s' W':=by
 have n1:∀ k,k≠sg->k≠km->¬ TOwn sg km k:=fun k a b h=>h.elim a b
 refine⟨(hM.block rb (lt_of_block h.rb) (n1 _ hd.rr.2.1 hd.rr.2.2.1)).trans h.rb,(hM.block mb (lt_of_block h.mb) (n1 _ hd.bb.2.1 hd.bb.2.2.1)).trans h.mb,?_,?_,e2 ▸ hT,z2h h.md hM (fun k hk=>hk.elim (fun e=>by rw[e];exact hd.lo.2.2.2.2.1) (fun e=>by rw[e];exact hd.lo.2.2.2.2.2.2.1))⟩
 ·rw[e3];exact h.mp.mod hM (n1 _ hd.mm.2.2.2.1 hd.mm.2.2.2.2.2)
 ·rw[e1];exact h.tb.mod hM (n1 _ hd.xx.2.2.1 hd.xx.2.2.2.2)
theorem PW.z1h (h:PW w rb x t sb sg kb km mb m L s W) (hd:PD w rb x t sb sg kb km mb m) {P':List (Cel PNd)} {lt':Nat->Ten} (hX:TabAt 87 W' x t lt') (hT:z0s W' t sb sg kb km P' L' 0) (hM:Mod (COwn x sg km) W W') (e1:s'.lt=lt') (e2:s'.P=P') (e3:s'.W=s.W):PW w rb x t sb sg kb km mb m L' s' W':=by
 have n1:∀ k,k≠x->k≠sg->k≠km->¬ COwn x sg km k:=fun k c a b h=>h.elim c (fun h=>h.elim a b)
 refine⟨(hM.block rb (lt_of_block h.rb) (n1 _ hd.rr.1 hd.rr.2.1 hd.rr.2.2.1)).trans h.rb,(hM.block mb (lt_of_block h.mb) (n1 _ hd.bb.1 hd.bb.2.1 hd.bb.2.2.1)).trans h.mb,?_,e1 ▸ hX,e2 ▸ hT,z2h h.md hM (fun k hk=>hk.elim (fun e=>by rw[e];exact hd.lo.2.1) (fun hk=>hk.elim (fun e=>by rw[e];exact hd.lo.2.2.2.2.1) (fun e=>by rw[e];exact hd.lo.2.2.2.2.2.2.1)))⟩
 rw[e3];exact h.mp.mod hM (n1 _ hd.mm.1 hd.mm.2.2.2.1 hd.mm.2.2.2.2.2)
theorem PW.map (h:PW w rb x t sb sg kb km mb m L s W) (hd:PD w rb x t sb sg kb km mb m) {W2:List (ByteArray × Bool)} (hP:z0q Value.string Value.bool W' m W2) (hM:Mod (·=m) W W') (e1:s'.lt=s.lt) (e2:s'.P=s.P) (e3:s'.W=W2):PW w rb x t sb sg kb km mb m L s' W':=by
 have hnr:NoRow W m:=fun cs T fr hk=>by
  obtain⟨es,c,hm,_⟩:=h.mp
  rw[hm] at hk
  cases hk
 refine⟨(hM.block rb (lt_of_block h.rb) hd.rr.2.2.2).trans h.rb,(hM.block mb (lt_of_block h.mb) hd.bb.2.2.2).trans h.mb,e3 ▸ hP,?_,?_,z2h h.md hM (fun k hk=>by have:k=m:=hk;rw[this];exact hd.lo.2.2.2.2.2.2.2.2)⟩
 ·rw[e1];exact h.tb.mod hM (fun e=>hd.mm.1 e.symm)
 ·rw[e2];exact h.tp.mod hM (fun k e=>by have:k=m:=e;rw[this];exact hnr) (fun e=>hd.mm.2.1 e.symm) (fun e=>hd.mm.2.2.1 e.symm) (fun e=>hd.mm.2.2.2.1 e.symm) (fun e=>hd.mm.2.2.2.2.1 e.symm) (fun e=>hd.mm.2.2.2.2.2 e.symm)
end
end Go.Proofs.YtgdmfledhhoedaaGreatDoor.T
namespace Go.Burg
open Go Go.RowKit
open Go.Burg.Purse (St Inv)
structure ASt where
 lt:Nat->Ten
 an:Nat->Nat
 Zs:Nat->Nat->Prop
 Es:Nat->Ents
 P:List (Cel PNd)
 pm:Nat->Nat
 ss:Nat->St
structure AI (s:ASt) (r:Nat):Prop where
 tens:Tens s.P s.lt s.an s.Zs s.Es
 gen:∀ n,0<=(s.lt n).gen/\(s.lt n).gen<=r
 gen1:∀ n p,(s.lt n).purse=some p->1<=(s.lt n).gen
 len:s.P.length=400
 gok:GenOk s.P
 room:400<=z1j s.P+r
 inv:∀ n p,n≠5->(s.lt n).purse=some p->Inv (s.ss n)/\(s.ss n).last<=r
def ASt.start:ASt:=⟨fun _=>Ten.zero,fun _=>0,fun _ _=>False,fun _=>[],List.replicate 400 ⟨false,zeroP,0⟩,fun _=>0,fun _=>St.new 0 0⟩
theorem AI.start:AI ASt.start 0:=by
 refine⟨⟨fun n p h=>(by cases h),fun n _=>⟨fun _ h=>h,rfl⟩,fun _ _ _ _ h=>h.elim⟩,fun _=>⟨Int.le_refl _,Int.le_refl _⟩,fun n p h=>(by cases h),List.length_replicate ..,fun p hp=>?_,?_,fun n p _ h=>(by cases h)⟩
 ·have:=(List.mem_replicate.1 hp).2
  subst this
  simp
 ·show 400<=z1j (List.replicate 400 _)+0
  rw[room_rep]
  exact Nat.le_refl _
section
variable {s:ASt} {r r' n j p m:Nat} {pj:Cel PNd}
theorem AI.more (h:AI s r) (hr:r<=r'):AI s r':=⟨h.tens,fun n=>by have:=h.gen n;omega,h.gen1,h.len,h.gok,by have:=h.room;omega,fun n p a b=>by have:=h.inv n p a b;exact⟨this.1,by omega⟩⟩
theorem AI.first (h:AI s r) (hr:r<400):∃ (j:Nat) (pj:Cel PNd),z2s s.P (j:Int)/\s.P[j]?=some pj/\pj.room=true/\j<400/\0<=pj.gen/\pj.gen<4294967295:=by
 obtain⟨j,pj,h1,h2,h3⟩:=first_ex (P:=s.P) (by have:=h.room;omega)
 exact⟨j,pj,h1,h2,h3,by have:=(List.getElem?_eq_some_iff.1 h2).1;rw[h.len] at this;exact this,h.gok.at h2,by
  unfold Cel.room at h3
  simp at h3
  exact h3.2⟩
def ASt.z1h (s:ASt) (n j p m:Nat) (g mk mb:Int):ASt:=⟨upd s.lt n ⟨(s.lt n).gen+1,j,g,some p⟩,updF s.an n j,updF s.Zs n (·=j),updF s.Es n [],s.P.set j ⟨true,⟨.z0k 5 ⟨#[]⟩ [],true,false⟩,g⟩,updF s.pm n m,updF s.ss n (St.new mk mb)⟩
theorem AI.z1h (h:AI s r) (hp:(s.lt n).purse=none) (hj:s.P[j]?=some pj) (hr:pj.room=true) {mk mb:Int} (hI:Inv (St.new mk mb)):AI (s.z1h n j p m (pj.gen+1) mk mb) (r+1):=by
 have hc:=Chg.take hj hr ⟨.z0k 5 ⟨#[]⟩ [],true,false⟩
 refine⟨h.tens.z1h hp hj hr,fun k=>?_,fun k q hq=>?_,by rw[<- h.len];exact hc.len,hc.gen h.gok,?_,fun k q hk hq=>?_⟩
 ·have h1:=h.gen k
  by_cases e:k=n
  ·subst e;simp only[ASt.z1h,upd,if_pos];omega
  ·simp only[ASt.z1h,upd,if_neg e];omega
 ·have h1:=h.gen k
  by_cases e:k=n
  ·subst e;simp only[ASt.z1h,upd,if_pos];omega
  ·simp only[ASt.z1h,upd,if_neg e] at hq ⊢;exact h.gen1 k q hq
 ·have:=hc.room
  have:=h.room
  simp only[ASt.z1h]
  omega
 ·by_cases e:k=n
  ·subst e;simp only[ASt.z1h,z1k];exact⟨hI,by simp only[St.new];omega⟩
  ·simp only[ASt.z1h,upd,if_neg e,z1l _ _ e] at hq ⊢
   have:=h.inv k q hk hq
   exact⟨this.1,by omega⟩
def ASt.remove (s:ASt) (n:Nat) (R:List (Int × Int)):ASt:=⟨upd s.lt n ⟨(s.lt n).gen,0,0,none⟩,s.an,updF s.Zs n (fun _=>False),updF s.Es n [],R.foldl freeP s.P,s.pm,s.ss⟩
theorem AI.remove (h:AI s r) (hp:(s.lt n).purse=some p) {R:List (Int × Int)} (hR:Post s.P (s.an n) (s.lt n).agen (s.Zs n) R (s.Es n)):AI (s.remove n R) r:=by
 have hc:=Chg.freed hR.once fun r hr=>by
  obtain⟨x,q,a,_,b⟩:=hR.mem r hr
  exact⟨x,q,a,b⟩
 have hl:∀ k q,((s.remove n R).lt k).purse=some q->k≠n/\(s.lt k).purse=some q:=fun k q hq=>by
  by_cases e:k=n
  ·subst e;simp[ASt.remove,upd] at hq
  ·simp only[ASt.remove,upd,if_neg e] at hq;exact⟨e,hq⟩
 refine⟨h.tens.remove hp hR,fun k=>?_,fun k q hq=>?_,by rw[<- h.len];exact hc.len,hc.gen h.gok,?_,fun k q hk hq=>h.inv k q hk (hl k q hq).2⟩
 ·have h1:=h.gen k
  by_cases e:k=n
  ·subst e;simp only[ASt.remove,upd,if_pos];exact h1
  ·simp only[ASt.remove,upd,if_neg e];exact h1
 ·obtain⟨e,hq⟩:=hl k q hq
  have:=h.gen1 k q hq
  simp only[ASt.remove,upd,if_neg e]
  exact this
 ·have:=hc.room
  have:=h.room
  simp only[ASt.remove]
  omega
def ASt.revoke (s:ASt) (n:Nat):ASt:={ s with lt:=upd s.lt n { s.lt n with gen:=(s.lt n).gen+1 } }
theorem revoke_lt (s:ASt) (n k:Nat):((s.revoke n).lt k).slot=(s.lt k).slot/\((s.revoke n).lt k).agen=(s.lt k).agen/\((s.revoke n).lt k).purse=(s.lt k).purse/\(s.lt k).gen<=((s.revoke n).lt k).gen/\((s.revoke n).lt k).gen<=(s.lt k).gen+1:=by
 by_cases e:k=n
 ·subst e;simp only[ASt.revoke,upd,if_pos];exact⟨trivial,trivial,trivial,by omega,by omega⟩
 ·simp only[ASt.revoke,upd,if_neg e];exact⟨trivial,trivial,trivial,by omega,by omega⟩
theorem AI.revoke (h:AI s r):AI (s.revoke n) (r+1):=by
 refine⟨⟨fun k q hq=>?_,fun k hk=>?_,h.tens.dis⟩,fun k=>?_,fun k q hq=>?_,h.len,h.gok,by have:=h.room;exact (by omega:400<=z1j s.P+(r+1)),fun k q hk hq=>?_⟩
 ·obtain⟨a,b,c,_⟩:=revoke_lt s n k
  rw[c] at hq
  rw[a,b]
  exact h.tens.ten k q hq
 ·obtain⟨a,b,c,_⟩:=revoke_lt s n k
  rw[c] at hk
  exact h.tens.non k hk
 ·obtain⟨_,_,_,d,e⟩:=revoke_lt s n k
  have:=h.gen k
  omega
 ·obtain⟨_,_,c,d,e⟩:=revoke_lt s n k
  rw[c] at hq
  have:=h.gen1 k q hq
  omega
 ·obtain⟨_,_,c,d,e⟩:=revoke_lt s n k
  rw[c] at hq
  have:=h.inv k q hk hq
  exact⟨this.1,Int.le_trans this.2 (by omega)⟩
theorem AI.purse (h:AI s r) {s2:St} (hI:Inv s2) (hl:s2.last<=r+1):AI { s with ss:=updF s.ss n s2 } (r+1):=by
 refine⟨h.tens,fun k=>by have:=h.gen k;simp only;omega,h.gen1,h.len,h.gok,by have:=h.room;simp only;omega,fun k q hk hq=>?_⟩
 by_cases e:k=n
 ·subst e;simp only[z1k];exact⟨hI,by omega⟩
 ·simp only[z1l _ _ e]
  have:=h.inv k q hk hq
  exact⟨this.1,by omega⟩
def ASt.put (s:ASt) (n:Nat) (P':List (Cel PNd)) (S':Nat->Prop) (E':Ents):ASt:=⟨s.lt,s.an,updF s.Zs n S',updF s.Es n E',P',s.pm,s.ss⟩
theorem AI.put (h:AI s r) (hp:(s.lt n).purse=some p) {P':List (Cel PNd)} {S':Nat->Prop} {E':Ents} {c v:ByteArray} (hR:PutR s.P P' (s.an n) (s.lt n).agen (s.Zs n) S' (s.Es n) E' c v) (hC:Chg s.P P' 2):AI (s.put n P' S' E') (r+2):=by
 refine⟨h.tens.put hp hR,fun k=>by have:=h.gen k;simp only[ASt.put];omega,h.gen1,by rw[<- h.len];exact hC.len,hC.gen h.gok,?_,fun k q hk hq=>by have:=h.inv k q hk hq;exact⟨this.1,by simp only[ASt.put];omega⟩⟩
 have:=hC.room
 have:=h.room
 simp only[ASt.put]
 omega
end
end Go.Burg
namespace Go.Proofs.YtgdmfledhhoedaaGreatDoor.T
set_option maxRecDepth 8000
open Go.ChangeShapes Go.WideShapes Go.ChangeAt Go.RowKit Go.Burg
open Go.Burg.Lk
open Go.Burg.Purse (St Inv)
structure AD (w W0:World) (x t sb sg kb km:Nat):Prop where
 b0:Below w.heap.size w W0
 lo:w.heap.size<=x/\w.heap.size<=sg/\w.heap.size<=km
 hi:x<W0.heap.size/\t<W0.heap.size/\sb<W0.heap.size/\sg<W0.heap.size/\kb<W0.heap.size/\km<W0.heap.size
 xx:x≠t/\x≠sb/\x≠sg/\x≠kb/\x≠km
 rooms:RoomsAt w
structure AW (W0:World) (x t sb sg kb km:Nat) (s:ASt) (L:List (RefK × Wd)) (W:World):Prop where
 tb:TabAt 87 W x t s.lt
 tp:z0s W t sb sg kb km s.P L 0
 md:Mod (COwn x sg km) W0 W
 pu:∀ n p,n≠5->(s.lt n).purse=some p->z0i W p (s.pm n) (s.ss n)/\W0.heap.size<=p/\W0.heap.size<=s.pm n
 pd:∀ n m p q,n≠m->n≠5->m≠5->(s.lt n).purse=some p->(s.lt m).purse=some q->p≠q/\p≠s.pm m/\s.pm n≠s.pm m
section
variable {w W0 W W':World} {x t sb sg kb km:Nat} {s s':ASt} {L L':List (RefK × Wd)} {r n p m:Nat}
theorem AW.keep (h:AW W0 x t sb sg kb km s L W) (hb:Below W.heap.size W W'):AW W0 x t sb sg kb km s L W' :=
 ⟨h.tb.keep hb,h.tp.keep hb,h.md.trans (Mod.z0j hb) (fun _ _ h=>h),fun n p hn hp=>by obtain⟨a,b⟩:=h.pu n p hn hp;exact⟨a.keep hb,b⟩,h.pd⟩
theorem AD.bel (hd:AD w W0 x t sb sg kb km) (h:Mod (COwn x sg km) W0 W):Below w.heap.size w W :=
 z2h hd.b0 h (fun k hk=>by have:=hd.lo;rcases hk with e|e|e<;>omega)
theorem AD.room (hd:AD w W0 x t sb sg kb km) (h:Mod (COwn x sg km) W0 W):RoomsAt W/\¬ TOwn sg km 0 :=
 ⟨hd.rooms.below (hd.bel h) hd.rooms.lt,fun e=>by have:=hd.lo;have:=hd.rooms.lt;rcases e with e|e<;>omega⟩
theorem AW.turn (h:AW W0 x t sb sg kb km s L W) (hd:AD w W0 x t sb sg kb km) (hX:TabAt 87 W' x t s'.lt) (hT:z0s W' t sb sg kb km s'.P L' 0) (hM:Mod (COwn x sg km) W W') (e1:∀ k q,(s'.lt k).purse=some q->(s.lt k).purse=some q) (e2:s'.pm=s.pm) (e3:s'.ss=s.ss):AW W0 x t sb sg kb km s' L' W':=by
 have no:∀ k,W0.heap.size<=k->¬ COwn x sg km k:=fun k hk e=>by have:=hd.hi;rcases e with e|e|e<;>omega
 refine⟨hX,hT,h.md.trans hM (fun _ _ h=>h),fun n p hn hp=>?_,fun n m p q a b c d e=>?_⟩
 ·obtain⟨a,b,c⟩:=h.pu n p hn (e1 _ _ hp)
  rw[e2,e3]
  exact⟨a.mod hM (no _ b) (no _ c),b,c⟩
 ·rw[e2]
  exact h.pd n m p q a b c (e1 _ _ d) (e1 _ _ e)
theorem AW.tree (h:AW W0 x t sb sg kb km s L W) (hd:AD w W0 x t sb sg kb km) (hT:z0s W' t sb sg kb km s'.P L' 0) (hM:Mod (TOwn sg km) W W') (e0:s'.lt=s.lt) (e2:s'.pm=s.pm) (e3:s'.ss=s.ss):AW W0 x t sb sg kb km s' L' W' :=
 h.turn hd (by rw[e0];exact h.tb.mod hM (fun e=>by have:=hd.xx;rcases e with e|e<;>omega)) hT (hM.mono fun _ _ h=>.inr h) (fun k q hq=>by rw[e0] at hq;exact hq) e2 e3
theorem AW.z1h (h:AW W0 x t sb sg kb km s L W) (hd:AD w W0 x t sb sg kb km) {j:Nat} {g mk mb:Int} (hX:TabAt 87 W' x t (s.z1h n j p m g mk mb).lt) (hT:z0s W' t sb sg kb km (s.z1h n j p m g mk mb).P L' 0) (hM:Mod (COwn x sg km) W W') (hP:z0i W' p m (St.new mk mb)) (h1:W.heap.size<=p) (h2:W.heap.size<=m):AW W0 x t sb sg kb km (s.z1h n j p m g mk mb) L' W':=by
 have no:∀ k,W0.heap.size<=k->¬ COwn x sg km k:=fun k hk e=>by have:=hd.hi;rcases e with e|e|e<;>omega
 have hs:=h.md.size
 have old:∀ k q,k≠n->((s.z1h n j p m g mk mb).lt k).purse=some q->(s.lt k).purse=some q:=fun k q e hq=>by simpa only [ASt.z1h,upd,if_neg e] using hq
 have new:∀ q,((s.z1h n j p m g mk mb).lt n).purse=some q->q=p:=fun q hq=>by simp[ASt.z1h,upd] at hq;exact hq.symm
 refine⟨hX,hT,h.md.trans hM (fun _ _ h=>h),fun k q hn hq=>?_,fun k k' q q' a b c d e=>?_⟩
 ·by_cases e:k=n
  ·subst e
   obtain rfl:=new q hq
   simp only[ASt.z1h,z1k]
   exact⟨hP,by omega,by omega⟩
  ·obtain⟨a,b,c⟩:=h.pu k q hn (old k q e hq)
   simp only[ASt.z1h,z1l _ _ e]
   exact⟨a.mod hM (no _ b) (no _ c),b,c⟩
 ·by_cases e1:k=n
  ·subst e1
   obtain rfl:=new q d
   have hk':k'≠k:=fun e=>a e.symm
   have hq':=(h.pu k' q' c (old k' q' hk' e)).1.lt
   simp only[ASt.z1h,z1k,z1l _ _ hk']
   omega
  ·have hq:=(h.pu k q b (old k q e1 d)).1.lt
   by_cases e2:k'=n
   ·subst e2
    obtain rfl:=new q' e
    simp only[ASt.z1h,z1k,z1l _ _ e1]
    omega
   ·simp only[ASt.z1h,z1l _ _ e1,z1l _ _ e2]
    exact h.pd k k' q q' a b c (old _ _ e1 d) (old _ _ e2 e)
theorem gown_noRow {gb:Nat} {g:Gt} {s1:St} (hG:W.heap[gb]?=some (GBlk g)) (hP:z0i W p m s1):∀ k,GOwn gb p m k->NoRow W k:=fun k hk cs T fr hc=>by
 rcases hk with e|e|e
 ·rw[e,hG] at hc;cases hc;exact⟨by decide,by decide⟩
 ·rw[e,hP.1] at hc;cases hc;exact⟨by decide,by decide⟩
 ·obtain⟨es,c,hm,_⟩:=hP.2
  rw[e,hm] at hc
  cases hc
theorem AW.purse (h:AW W0 x t sb sg kb km s L W) (hd:AD w W0 x t sb sg kb km) {gb:Nat} {s2:St} (hn:n≠5) (hp:(s.lt n).purse=some p) (hP:z0i W' p (s.pm n) s2) {g:Gt} (hG:W.heap[gb]?=some (GBlk g)) (hM:Mod (GOwn gb p (s.pm n)) W W') (hg:W0.heap.size<=gb) (hgn:∀ k q,k≠5->(s.lt k).purse=some q->q≠gb/\s.pm k≠gb):AW W0 x t sb sg kb km { s with ss:=updF s.ss n s2 } L W':=by
 obtain⟨a1,a2,a3⟩:=h.pu n p hn hp
 have ge:∀ k,GOwn gb p (s.pm n) k->W0.heap.size<=k:=fun k e=>by rcases e with e|e|e<;>omega
 have hi:=hd.hi
 have no:∀ k,k<W0.heap.size->¬ GOwn gb p (s.pm n) k:=fun k hk e=>by have:=ge k e;omega
 refine⟨h.tb.mod hM (no _ hi.1),h.tp.mod hM (gown_noRow hG a1) (no _ hi.2.1) (no _ hi.2.2.1) (no _ hi.2.2.2.1) (no _ hi.2.2.2.2.1) (no _ hi.2.2.2.2.2),h.md.trans hM (fun k hk e=>absurd e (no k hk)),fun k q hk hq=>?_,h.pd⟩
 ·by_cases e:k=n
  ·subst e
   rw[hp] at hq
   cases hq
   simp only[z1k]
   exact⟨hP,a2,a3⟩
  ·obtain⟨b1,b2,b3⟩:=h.pu k q hk hq
   obtain⟨c1,c2,c3⟩:=h.pd k n q p e hk hn hq hp
   obtain⟨d1,d2,d3⟩:=h.pd n k p q (fun h=>e h.symm) hn hk hp hq
   obtain⟨g1,g2⟩:=hgn k q hk hq
   simp only[z1l _ _ e]
   exact⟨b1.mod hM (fun e=>e.elim g1 (fun e=>e.elim c1 c2)) (fun e=>e.elim g2 (fun e=>e.elim (fun e=>d2 e.symm) c3)),b2,b3⟩
end
end Go.Proofs.YtgdmfledhhoedaaGreatDoor.T
namespace Go.Burg
open Go Go.RowKit
open Go.Burg.Purse (St Inv)
def Same5 (s s':ASt):Prop:=s'.lt 5=s.lt 5/\s'.Es 5=s.Es 5
theorem Same5.refl (s:ASt):Same5 s s:=⟨rfl,rfl⟩
theorem Same5.trans {a b c:ASt} (h:Same5 a b) (k:Same5 b c):Same5 a c:=⟨k.1.trans h.1,k.2.trans h.2⟩
theorem same5 {s s':ASt} {n:Nat} {t:Ten} (hn:n≠5) (h1:s'.lt=upd s.lt n t) {E:Ents} (h2:s'.Es=updF s.Es n E):Same5 s s' :=
 ⟨by rw[h1];exact if_neg fun e=>hn e.symm,by rw[h2];exact z1l _ _ fun e=>hn e.symm⟩
theorem res_cases (s:St) (k y:Int):((s.res k y).2.1=0\/(s.res k y).2.1=10)/\(s.res k y).2.2.last<=s.last+1:=by
 unfold St.res
 split
 ·exact⟨.inl rfl,Int.le_refl _⟩
 ·exact⟨.inr rfl,by simp only;omega⟩
theorem com_last (s:St) (t:Int):(s.com t).2.last=s.last:=by
 unfold St.com
 split<;>rfl
theorem pay_last (s:St) (k y:Int):(s.pay k y).2.last=s.last:=by
 unfold St.pay
 split<;>rfl
end Go.Burg
namespace Go.Proofs.YtgdmfledhhoedaaGreatDoor.T
set_option maxRecDepth 8000
open Go.ChangeShapes Go.WideShapes Go.ChangeAt Go.RowKit Go.Burg
open Go.Burg.Lk
open Go.Burg.Purse (St Inv)
variable {gb p:Nat}
section
variable {w W0 W W':World} {x t sb sg kb km:Nat} {s s':ASt} {L L':List (RefK × Wd)} {r:Nat}
theorem a_create (n mk mb:Int) (hd:AD w W0 x t sb sg kb km) (h:AW W0 x t sb sg kb km s L W) (hI:AI s r) (hr:r<390) (hn:n≠5) (hP:Inv (St.new mk mb)) :
 Calls Tryz.prog 6 #[.pointer (some ⟨x,0,none⟩),.int .i64 n,.agg #[.int .u64 mk,.int .u64 mb]] W fun e w'=>(∃ v,e=.returned (.int .i64 v))/\∃ s' L',AI s' (r+2)/\AW W0 x t sb sg kb km s' L' w'/\Same5 s s':=by
 rcases ten_cases s.lt n with (ha|⟨k,rfl,k1,k2,hp⟩)|⟨k,p,rfl,k1,k2,hp⟩
 ·refine (create_arg n mk mb W h.tb ha).mono ?_
  rintro e w' ⟨rfl,hb⟩
  exact⟨⟨_,rfl⟩,s,L,hI.more (by omega),h.keep hb,.refl s⟩
 ·obtain⟨j,pj,hF,hj,hjr,hj2,g0,g1⟩:=hI.first (by omega)
  have hwf:=rk_wf (j:=j) (g:=pj.gen+1) (by omega) (by omega) (by omega)
  refine (create_P mk mb W h.tb h.tp hd.xx k1 k2 hp (by have:=hI.gen k;omega) hF hj hjr ⟨((j:Int),pj.gen+1),hwf⟩ rfl rfl).mono ?_
  rintro e w' ⟨rfl,p,pm,hX,hT,hP',b1,b2,hM⟩
  exact⟨⟨_,rfl⟩,s.z1h k j p pm (pj.gen+1) mk mb,_,(hI.z1h hp hj hjr hP).more (by omega),h.z1h hd hX hT hM hP' b1 b2,same5 (n:=k) (by omega) rfl rfl⟩
 ·refine (create_twice mk mb W h.tb k1 k2 hp).mono ?_
  rintro e w' ⟨rfl,hb⟩
  exact⟨⟨_,rfl⟩,s,L,hI.more (by omega),h.keep hb,.refl s⟩
theorem a_remove (n:Int) (hd:AD w W0 x t sb sg kb km) (h:AW W0 x t sb sg kb km s L W) (hI:AI s r) (hn:n≠5) :
 Calls Tryz.prog 16 #[.pointer (some ⟨x,0,none⟩),.int .i64 n] W fun e w'=>(∃ v,e=.returned (.int .i64 v))/\∃ s' L',AI s' (r+2)/\AW W0 x t sb sg kb km s' L' w'/\Same5 s s':=by
 rcases ten_cases s.lt n with ha|⟨k,p,rfl,k1,k2,hp⟩
 ·refine (remove_no n W h.tb ha).mono ?_
  rintro e w' ⟨hv,hb⟩
  exact⟨hv,s,L,hI.more (by omega),h.keep hb,.refl s⟩
 ·obtain⟨h1,h2⟩:=hI.tens.ten k p hp
  obtain⟨R,hR⟩:=h2.post
  obtain⟨kk,pt,Lk,hq⟩:=sub_top h2
  refine (remove_trie W h.tb h.tp hd.xx k1 k2 hp h1 fun w1 hT=>Fell_trie w1 hT hR hq rfl (by rw[hI.len];omega) hI.gok).mono ?_
  rintro e w' ⟨rfl,hX,hT,hM⟩
  refine⟨⟨_,rfl⟩,s.remove k R,_,(hI.remove hp hR).more (by omega),h.turn hd hX hT hM (fun q p' hq=>?_) rfl rfl,same5 (n:=k) (by omega) rfl rfl⟩
  by_cases e:q=k
  ·subst e;simp[ASt.remove,upd] at hq
  ·simpa only [ASt.remove,upd,if_neg e] using hq
theorem a_revoke (n:Int) (hd:AD w W0 x t sb sg kb km) (h:AW W0 x t sb sg kb km s L W) (hI:AI s r) (hr:r<390) (hn:n≠5) :
 Calls Tryz.prog 17 #[.pointer (some ⟨x,0,none⟩),.int .i64 n] W fun e w'=>(∃ v,e=.returned (.int .i64 v))/\∃ s' L',AI s' (r+2)/\AW W0 x t sb sg kb km s' L' w'/\Same5 s s':=by
 rcases ten_cases s.lt n with ha|⟨k,p,rfl,k1,k2,hp⟩
 ·refine (revoke_no n W h.tb ha).mono ?_
  rintro e w' ⟨hv,hb⟩
  exact⟨hv,s,L,hI.more (by omega),h.keep hb,.refl s⟩
 ·refine (revoke_at W h.tb k1 k2 hp (by have:=hI.gen k;omega)).mono ?_
  rintro e w' ⟨rfl,hX,hM⟩
  have hxx:=hd.xx
  refine⟨⟨_,rfl⟩,s.revoke k,L,(hI.revoke (n:=k)).more (by omega),h.turn hd hX (h.tp.mod hM (fun q e=>by have:q=x:=e;subst this;exact TabAt.noRow h.tb) (fun e=>hxx.1 e.symm) (fun e=>hxx.2.1 e.symm) (fun e=>hxx.2.2.1 e.symm) (fun e=>hxx.2.2.2.1 e.symm) (fun e=>hxx.2.2.2.2 e.symm)) (hM.mono fun _ _ h=>.inl h) (fun q p' hq=>by rwa [(revoke_lt s k q).2.2.1] at hq) rfl rfl,⟨if_neg (by omega),rfl⟩⟩
def IssOk (l:Nat->Ten) (tn gn rt v:Int):Prop:=(v≠0/\tn=0/\gn=0/\rt=0)\/(v=0/\∃ k p:Nat,tn=k/\1<=k/\k<=16/\k≠5/\(l k).purse=some p/\gn=(l k).gen/\rt=7)
theorem a_issue (n:Int) (h:AW W0 x t sb sg kb km s L W) (hn:n≠5) :
 Calls Tryz.prog 12 #[.pointer (some ⟨x,0,none⟩),.int .i64 n,.int .u8 7] W fun e w'=>(∃ tn gn rt v,e=.returned (.tuple #[.agg #[.int .i64 tn,.int .u32 gn,.int .u8 rt],.int .i64 v])/\IssOk s.lt tn gn rt v)/\AW W0 x t sb sg kb km s L w'/\Below W.heap.size W w':=by
 rcases ten_cases s.lt n with ha|⟨k,p,rfl,k1,k2,hp⟩
 ·refine (issue_no n 7 W h.tb ha (by omega) (by omega)).mono ?_
  rintro e w' ⟨⟨v,hv,rfl⟩,hb⟩
  exact⟨⟨_,_,_,_,rfl,.inl ⟨hv,rfl,rfl,rfl⟩⟩,h.keep hb,hb⟩
 ·refine (Issue_at 7 W h.tb k1 k2 hp (by omega) (by omega)).mono ?_
  rintro e w' ⟨rfl,hb⟩
  exact⟨⟨_,_,_,_,rfl,.inr ⟨rfl,k,p,rfl,k1,k2,by omega,hp,rfl,rfl⟩⟩,h.keep hb,hb⟩
theorem may_good {l:Nat->Ten} {k:Nat} (k1:1<=k) (k2:k<=16) (hp:(l k).purse=some p) (hg:1<=(l k).gen):goodB l k (l k).gen 7=true/\mayI l k (l k).gen 7 2=0:=by
 have hR:hRight k (l k).gen 7=true:=by
  unfold hRight
  simp
  omega
 have hG:goodB l k (l k).gen 7=true:=by
  unfold goodB
  rw[show ((k:Nat):Int).toNat=k by omega,hp,hR]
  simp
 refine⟨hG,?_⟩
 unfold mayI hAllows
 rw[hG,hR]
 rfl
theorem may_bad (l:Nat->Ten):mayI l 0 0 0 2=11:=by
 unfold mayI goodB
 rw[show hRight 0 0 0=false from rfl]
 simp
structure AG (W0:World) (x t sb sg kb km gb:Nat) (s:ASt) (L:List (RefK × Wd)) (W:World):Prop where
 w:AW W0 x t sb sg kb km s L W
 g:∃ g,W.heap[gb]?=some (GBlk g)/\(g.p=none\/∃ k p,k≠5/\(s.lt k).purse=some p/\g.p=some p/\0<=g.l0/\0<=g.l1)
 lo:W0.heap.size<=gb/\∀ k q,k≠5->(s.lt k).purse=some q->q≠gb/\s.pm k≠gb
theorem a_reserve {tn gn rt v:Int} (k y:Int) (hd:AD w W0 x t sb sg kb km) (h:AW W0 x t sb sg kb km s L W) (hI:AI s r) (hr:r<390) (hG:W.heap[gb]?=some (GBlk ⟨x,tn,gn,rt,2,none,0,0,0⟩)) (hlo:W0.heap.size<=gb/\∀ k q,k≠5->(s.lt k).purse=some q->q≠gb/\s.pm k≠gb) (hv:IssOk s.lt tn gn rt v)
 (hk:-9223372036854775808<=k/\k<=9223372036854775807) (hy:-9223372036854775808<=y/\y<=9223372036854775807) :
 Calls Tryz.prog 171 #[.pointer (some ⟨gb,0,none⟩),.agg #[.int .i64 k,.int .i64 y]] W fun e w'=>(∃ f:Int,e=.returned (.int .i64 f)/\(f=0->v=0))/\∃ s',AI s' (r+1)/\AG W0 x t sb sg kb km gb s' L w'/\Same5 s s':=by
 rcases hv with ⟨h0,rfl,rfl,rfl⟩|⟨rfl,n,p,rfl,n1,n2,n5,hp,rfl,rfl⟩
 ·refine (gReserve_bad k y W hG h.tb rfl (may_bad _)).mono ?_
  rintro e w' ⟨rfl,hb⟩
  exact⟨⟨11,rfl,fun e=>by omega⟩,s,hI.more (by omega),⟨h.keep hb,⟨_,z0b hG hb (lt_of_block hG),.inl rfl⟩,hlo⟩,.refl s⟩
 ·obtain⟨hP,hp0,hm0⟩:=h.pu n p n5 hp
  obtain⟨hi1,hi2⟩:=hI.inv n p n5 hp
  obtain⟨g1,g2⟩:=hlo.2 n p n5 hp
  have hx:=hd.hi
  refine (gReserve_ok k y W hG h.tb (.inl rfl) hP hi1 (fun e=>g1 e.symm) (fun e=>g2 e.symm) (show ¬ GOwn gb p (s.pm n) x from fun e=>by rcases e with e|e|e<;>omega) (may_good n1 n2 hp (hI.gen1 n p hp)).2 rfl n2 hp (by omega) hk hy).mono ?_
  rintro e w' ⟨rfl,hG',hP',hM⟩
  have hcl:z2c (s.ss n) ⟨x,n,(s.lt n).gen,7,2,none,0,0,0⟩=s.ss n:=rfl
  rw[hcl] at hG' hP' ⊢
  obtain⟨c1,c2⟩:=res_cases (s.ss n) (max k 0) (max y 0)
  have hin:=hi1.res (k:=max k 0) (y:=max y 0) (by omega) (by omega)
  refine⟨⟨_,rfl,fun _=>rfl⟩,_,hI.purse (n:=n) hin (by omega),⟨h.purse hd n5 hp hP' hG hM hlo.1 hlo.2,⟨_,hG',?_⟩,hlo⟩,⟨rfl,rfl⟩⟩
  unfold resG
  split
  ·exact .inr ⟨n,p,n5,hp,rfl,by simp only;omega,by simp only;omega⟩
  ·exact .inl rfl
theorem a_commit (hd:AD w W0 x t sb sg kb km) (h:AG W0 x t sb sg kb km gb s L W) (hI:AI s r) :
 Calls Tryz.prog 169 #[.pointer (some ⟨gb,0,none⟩)] W fun e w'=>e=.returned (.tuple #[])/\∃ s',AI s' (r+1)/\AW W0 x t sb sg kb km s' L w'/\Same5 s s':=by
 obtain⟨g,hG,hg|⟨n,p,n5,hp,hg,l0,l1⟩⟩:=h.g
 ·refine (gCommit_no W hG hg).mono ?_
  rintro e w' ⟨rfl,rfl⟩
  exact⟨rfl,s,hI.more (by omega),h.w,.refl s⟩
 ·obtain⟨hP,hp0,hm0⟩:=h.w.pu n p n5 hp
  obtain⟨hi1,hi2⟩:=hI.inv n p n5 hp
  obtain⟨g1,g2⟩:=h.lo.2 n p n5 hp
  refine (gCommit_yes W hG hg hP hi1 (fun e=>g1 e.symm) (fun e=>g2 e.symm) l0 l1).mono ?_
  rintro e w' ⟨rfl,hG',hP',hM⟩
  refine⟨rfl,_,hI.purse (n:=n) ((hi1.com g.tk).pay l0 l1) (by rw[pay_last,com_last];omega),h.w.purse hd n5 hp hP' hG hM h.lo.1 h.lo.2,⟨rfl,rfl⟩⟩
theorem a_put {n:Nat} {c v:ByteArray} (hd:AD w W0 x t sb sg kb km) (hI:AI s r) (hr:r<390) (hp:(s.lt n).purse=some p) (hc:z2l c) (hv:v.size<=32) (L:List (RefK × Wd)) :
 ∃ s' L',AI s' (r+2)/\s'.lt=s.lt/\(n≠5->Same5 s s')/\∀ W,AW W0 x t sb sg kb km s L W->Calls Tryz.prog 8 #[.pointer (some ⟨t,0,none⟩),.agg #[.int .i64 (s.an n),.int .u32 (s.lt n).agen],.string c,.string v] W fun e w'=>(∃ d,e=.returned (.tuple #[d,.int .i64 0]))/\AW W0 x t sb sg kb km s' L' w'/\Mod (TOwn sg km) W w':=by
 obtain⟨P',S',E',L',hPR,hCh,hPC⟩:=Put_trie (hI.tens.ten n p hp).2 hc hv (by rw[hI.len];omega) hI.gok (by have:=hI.room;omega) L 0
 refine⟨s.put n P' S' E',L',hI.put hp hPR hCh,rfl,fun hn=>⟨rfl,z1l _ _ fun e=>hn e.symm⟩,fun W h=>?_⟩
 obtain⟨h1,h2⟩:=hd.room h.md
 refine (hPC t sb sg kb km W h.tp h1 h2).mono ?_
 rintro e w' ⟨hv,hT,hM⟩
 exact⟨hv,h.tree hd hT hM rfl rfl rfl,hM⟩
end
end Go.Proofs.YtgdmfledhhoedaaGreatDoor.T
namespace Go.Proofs.YtgdmfledhhoedaaGreatDoor
open Go.ChangeShapes Go.WideShapes Go.ChangeAt Go.RowKit Go.Burg
theorem pick_any (x n p:Int) (w:World) (h1:1<=n) (h2:n<=4000000000) (hp:x % n=p) :
 Calls Tryz.prog 15 #[.int .i64 x,.int .i64 n] w fun e w'=>e=.returned (.int .i64 p)/\w=w':=by
 have hlo:=Int.emod_nonneg x (b:=n) (by omega)
 have hhi:=Int.emod_lt_of_pos x (b:=n) (by omega)
 have HP:=hid hp
 by_cases h0:0<=x
 ·clear hp
  go_enter Tryz.func15,Tryz.ntmps15
  go_wp2
  go_ret
  exact⟨by simp;exact HP.out,rfl⟩
 ·have hm:x.tmod n=if p=0 then 0 else p - n:=by
   rw[Int.tmod_eq_emod,hp]
   by_cases hd:n ∣ x
   ·have:p=0:=by rw[<- hp];exact Int.emod_eq_zero_of_dvd hd
    simp[this,hd]
   ·have:p≠0:=fun h=>hd (Int.dvd_of_emod_eq_zero (by rw[hp];exact h))
    simp[h0,hd,this]
    omega
  rw[hp] at hlo hhi
  have HM:=hid hm
  by_cases hz:p=0
  ·have hq:0<=x.tmod n:=by rw[hm];simp[hz]
   have HZ:=hid hz
   clear hp hm hz
   go_enter Tryz.func15,Tryz.ntmps15
   go_wp2
   go_ret
   exact⟨by simp;rw[HM.out,HZ.out];rfl,rfl⟩
  ·have hq:x.tmod n<0:=by rw[hm];simp[hz];omega
   have hq2:-4000000000<=x.tmod n:=by rw[hm];simp[hz];omega
   have HZ:=hid hz
   clear hp hm hz
   go_enter Tryz.func15,Tryz.ntmps15
   go_wp2
   go_ret
   exact⟨by simp;rw[HM.out];simp[HZ.out],rfl⟩
end Go.Proofs.YtgdmfledhhoedaaGreatDoor
namespace Go.Burg
open Go
structure VT (fx:List Nat) (tab:Nat->Value) (F:Nat->Value->Prop) (iT:Nat) (P0 P1:World->Prop) (D:Nat->Bool) (xs:Nat->Value) (w:World):Prop where
 v:∀ j,D j=true->j∈fx->xs j=tab j
 f:∀ j,D j=true->F j (xs j)
 p:cond (D iT) (P1 w) (P0 w)
section
variable {fx:List Nat} {tab:Nat->Value} {F:Nat->Value->Prop} {iT:Nat} {P0 P1:World->Prop} {D:Nat->Bool} {xs:Nat->Value} {w w':World}
theorem VT.start (h:P0 w):VT fx tab F iT P0 P1 (fun _=>false) (fun _=>undef) w:=⟨fun _ h=>(by cases h),fun _ h=>(by cases h),h⟩
theorem VT.step (h:VT fx tab F iT P0 P1 D xs w) {i:Nat} {u:Value} (hD:D i=false) (hu:i∈fx->u=tab i) (hF:F i u) (hp:cond (D iT || iT == i) (P1 w') (P0 w')):VT fx tab F iT P0 P1 (fun j=>D j || j == i) (fun j=>if j=i then u else xs j) w':=by
 refine⟨fun j hj hf=>?_,fun j hj=>?_,hp⟩
 ·by_cases e:j=i
  ·subst e;simp only[if_pos];exact hu hf
  ·simp only[if_neg e];exact h.v j (by simpa[e] using hj) hf
 ·by_cases e:j=i
  ·subst e;simp only[if_pos];exact hF
  ·simp only[if_neg e];exact h.f j (by simpa[e] using hj)
theorem VT.calm (h:VT fx tab F iT P0 P1 D xs w) {i:Nat} {u:Value} (hD:D i=false) (h2:i≠iT) (hu:i∈fx->u=tab i) (hF:F i u) (k0:P0 w->P0 w') (k1:P1 w->P1 w'):VT fx tab F iT P0 P1 (fun j=>D j || j == i) (fun j=>if j=i then u else xs j) w':=by
 have e:(D iT || iT == i)=D iT:=by
  have:(iT == i)=false:=beq_false_of_ne (fun e=>h2 e.symm)
  rw[this,Bool.or_false]
 refine h.step hD hu hF ?_
 rw[e]
 have:=h.p
 cases hd:D iT<;>rw[hd] at this
 ·exact k0 this
 ·exact k1 this
theorem VT.turn (h:VT fx tab F iT P0 P1 D xs w) {u:Value} (hD:D iT=false) (hu:iT∈fx->u=tab iT) (hF:F iT u) (k:P1 w'):VT fx tab F iT P0 P1 (fun j=>D j || j == iT) (fun j=>if j=iT then u else xs j) w':=by
 refine h.step hD hu hF ?_
 simp
 exact k
theorem VT.p0 (h:VT fx tab F iT P0 P1 D xs w) (hD:D iT=false):P0 w:=by have:=h.p;rw[hD] at this;exact this
theorem VT.p1 (h:VT fx tab F iT P0 P1 D xs w) (hD:D iT=true):P1 w:=by have:=h.p;rw[hD] at this;exact this
end
end Go.Burg
namespace Go.Proofs.YtgdmfledhhoedaaGreatDoor.T
set_option maxRecDepth 8000
open Go.ChangeShapes Go.WideShapes Go.ChangeAt Go.RowKit Go.Burg
open Go.Burg.Lk Go.Shelf
open Go.Burg.Purse (St Inv)
attribute [local go_sem] Oper.semAt_some
theorem rel_zero {w:World} (n:Nat):Rel w (List.replicate n ⟨false,Nd.zero,0⟩) (List.replicate n ⟨false,zeroP,0⟩):=by
 refine⟨by simp,fun i c hc=>?_⟩
 have hi:=(List.getElem?_eq_some_iff.1 hc).1
 rw[List.getElem?_replicate] at hc
 rw[List.length_replicate] at hi
 rw[if_pos hi] at hc
 cases hc
 refine⟨⟨false,zeroP,0⟩,by rw[List.getElem?_replicate,if_pos hi],rfl,rfl,fun h=>by cases h⟩
end Go.Proofs.YtgdmfledhhoedaaGreatDoor.T
