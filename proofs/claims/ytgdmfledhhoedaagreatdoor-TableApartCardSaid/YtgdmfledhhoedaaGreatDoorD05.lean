/- Part 5 of 27. -/
import Derived.Test.YtgdmfledhhoedaaGreatDoorD04
import Derived.Test.YtgdmfledhhoedaaGreatDoorD01
namespace Go.Proofs.YtgdmfledhhoedaaGreatDoor.M
set_option maxRecDepth 8000
open Go.ChangeShapes Go.WideShapes Go.ChangeAt Go.RowKit Go.Burg
def z1z (M:Mw) (r:Nat):List Value:=(List.range r).flatMap fun p=>[.int .i64 (M.s p),.int .u32 (M.g p)]
def usedL (M:Mw) (r:Nat):List Value:=(List.range r).map fun p=>.bool (M.u p)
theorem atL_len (M:Mw):(atL M).length=256:=by unfold atL;rw[List.length_map,List.length_range]
theorem atL_get (M:Mw) {b:Nat} (hb:b<256):(atL M)[b]?=some (.int .u16 (M.at' b)):=by unfold atL;rw[List.getElem?_map,List.getElem?_range hb];rfl
theorem refsL_len (M:Mw) (r:Nat):(z1z M r).length=r * 2:=pairs_len _ _ r
theorem refsL_get (M:Mw) {r k:Nat} (hk:k<r * 2):(z1z M r)[k]?=some (if k % 2=0 then .int .i64 (M.s (k / 2)) else .int .u32 (M.g (k / 2))):=pairs_get _ _ r hk
theorem refsL_one (M:Mw) (r:Nat):∀ u∈z1z M r,u.oneCell'=true:=fun v hv=>by
 obtain⟨j,_,h1⟩:=List.mem_flatMap.1 hv
 simp at h1
 rcases h1 with rfl|rfl<;>rfl
theorem usedL_one (M:Mw) (r:Nat):∀ u∈usedL M r,u.oneCell'=true:=fun v hv=>by
 obtain⟨j,_,rfl⟩:=List.mem_map.1 hv
 rfl
section
variable {w w':World} {x gr gu r:Nat} {M:Mw}
theorem refs_in (h:ManyAt 251 36 4 w x gr gu r M):RowIn 36 w gr (z1z M r):=by
 obtain⟨cs,h1,h2,h3⟩:=h.hr
 refine⟨cs,h1,fun j hj=>?_⟩
 rw[refsL_len] at hj
 rw[refsL_get M hj]
 obtain⟨a,b⟩:=h3 (j / 2) (by omega)
 by_cases e:j % 2=0
 ·rw[if_pos e,<- a];congr 1;omega
 ·rw[if_neg e,<- b];congr 1;omega
theorem used_in (h:ManyAt 251 36 4 w x gr gu r M):RowIn 4 w gu (usedL M r):=by
 obtain⟨cs,h1,h2,h3⟩:=h.hu
 refine⟨cs,h1,fun j hj=>?_⟩
 have hj2:j<r:=by simpa[usedL] using hj
 rw[h3 j hj2]
 simp[usedL,hj2]
theorem at_load (h:ManyAt 251 36 4 w x gr gu r M):(Instr.loadAt 247 (.pointer (some ⟨x,0,none⟩))).run Tryz.prog w=.ok (.agg (atL M).toArray) w:=by
 obtain⟨cs,h1,h2,h3,_⟩:=h.hx
 refine run_loadAt_cells x 0 247 (atL M) _ (fun j v hj=>?_) Tryz.underlying247 rfl (by rw[show (atL M).length=256 by simp[atL]];kernel_rfl)
 have hj2:j<256:=by have:=(List.getElem?_eq_some_iff.1 hj).1;simpa[atL] using this
 rw[Nat.zero_add,cell_of h1,h3 j hj2,<- hj]
 simp[atL,hj2]
structure CpJ (W:World) (r:Nat) (M:Mw) (tab:Nat->Value) (D:Nat->Bool) (xs:Nat->Value) (w:World):Prop where
 b:Below W.heap.size W w
 v:∀ j,D j=true->j≠10->j≠16->xs j=tab j
 e10:D 10=true->∃ g cap,xs 10=.slice (some ⟨g,0,none⟩) r cap/\W.heap.size<=g/\RowIn 36 w g (z1z M r)
 e16:D 16=true->∃ g cap,xs 16=.slice (some ⟨g,0,none⟩) r cap
variable {W:World} {tab:Nat->Value} {D:Nat->Bool} {xs:Nat->Value}
theorem CpJ.calm (h:CpJ W r M tab D xs w) {i:Nat} {u:Value} (h1:i≠10) (h2:i≠16) (hu:u=tab i) (hb:Below w.heap.size w w'):CpJ W r M tab (fun j=>D j || j == i) (fun j=>if j=i then u else xs j) w':=by
 refine⟨z0d h.b hb h.b.size,fun j hj n1 n2=>?_,fun e=>?_,fun e=>?_⟩
 ·by_cases e:j=i
  ·subst e;rw[if_pos rfl];exact hu
  ·rw[if_neg e];exact h.v j (by simpa[e] using hj) n1 n2
 ·obtain⟨g,cap,e1,e2,e3⟩:=h.e10 (by have:¬ (10=i):=fun e=>h1 e.symm;simpa[this] using e)
  rw[if_neg (fun e=>h1 e.symm)]
  exact⟨g,cap,e1,e2,e3.keep hb⟩
 ·obtain⟨g,cap,e1⟩:=h.e16 (by have:¬ (16=i):=fun e=>h2 e.symm;simpa[this] using e)
  rw[if_neg (fun e=>h2 e.symm)]
  exact⟨g,cap,e1⟩
theorem CpJ.c10 (h:CpJ W r M tab D xs w) {g cap:Nat} (hb:Below w.heap.size w w') (hg:w.heap.size<=g) (hr:RowIn 36 w' g (z1z M r)):CpJ W r M tab (fun j=>D j || j == 10) (fun j=>if j=10 then .slice (some ⟨g,0,none⟩) r cap else xs j) w':=by
 refine⟨z0d h.b hb h.b.size,fun j hj n1 n2=>?_,fun _=>⟨g,cap,rfl,Nat.le_trans h.b.size hg,hr⟩,fun e=>?_⟩
 ·rw[if_neg n1];exact h.v j (by simpa[n1] using hj) n1 n2
 ·exact h.e16 (by simpa using e)
theorem CpJ.c16 (h:CpJ W r M tab D xs w) {g cap:Nat} (hb:Below w.heap.size w w'):CpJ W r M tab (fun j=>D j || j == 16) (fun j=>if j=16 then .slice (some ⟨g,0,none⟩) r cap else xs j) w':=by
 refine⟨z0d h.b hb h.b.size,fun j hj n1 n2=>?_,fun e=>?_,fun _=>⟨g,cap,rfl⟩⟩
 ·rw[if_neg n2];exact h.v j (by simpa[n2] using hj) n1 n2
 ·obtain⟨g',cap',e1,e2,e3⟩:=h.e10 (by simpa using e)
  exact⟨g',cap',e1,e2,e3.keep hb⟩
end
section
variable {w:World} {x gr gu r:Nat} {M:Mw}
set_option maxRecDepth 20000 in
set_option maxHeartbeats 8000000 in
theorem copy_at (h:ManyAt 251 36 4 w x gr gu r M) :
 Calls Tryz.prog 204 #[.pointer (some ⟨x,0,none⟩)] w fun e w'=>∃ x' gr',e=.returned (.pointer (some ⟨x',0,none⟩))/\CopyAt w' x' gr' r M/\(w.heap.size<=x'/\w.heap.size<=gr')/\Below w.heap.size w w':=by
 have HA:=hid h
 have HT:=hid (z1i h)
 have HAT:=hid (fun (w:World) (h:ManyAt 251 36 4 w x gr gu r M)=>at_load h)
 obtain⟨rv,hrv⟩:∃ rv,(atL M).toArray=rv:=⟨_,rfl⟩
 rw[hrv] at HAT
 have HRV:=hid hrv
 clear h hrv
 go_enter Tryz.func204,Tryz.ntmps204
 go_wp2_with (go_at_call 208;refine HT.out.mono ?_;rintro e w2 ⟨rfl,rfl⟩)
 clear HT
 refine z2i 17 (CpJ w r M (fun j=>([.pointer (some ⟨x,0,none⟩),.pointer (some ⟨x,0,none⟩),.pointer (some ⟨x,0,none⟩),.pointer (some ⟨x,0,none⟩),.agg rv,.pointer (some ⟨x,0,none⟩),.pointer (some ⟨x,0,none⟩),.pointer (some ⟨x,0,none⟩),.pointer (some ⟨x,256,none⟩),.slice (some ⟨gr,0,none⟩) r r,undef,.pointer (some ⟨x,0,none⟩),.pointer (some ⟨x,0,none⟩),.pointer (some ⟨x,0,none⟩),.pointer (some ⟨x,257,none⟩),.slice (some ⟨gu,0,none⟩) r r,undef]:List Value)[j]?.getD undef)) (by kernel_rfl) (by kernel_rfl) (by kernel_rfl) ?h0 ?hs ?hend
 case h0=>exact⟨⟨rfl,rfl,rfl,Nat.le_refl _,fun _ _=>rfl⟩,(fun j hj=>by cases hj),(fun hj=>by cases hj),(fun hj=>by cases hj)⟩
 case hs =>
  dsimp only[List.take,z1c,dsts,fill]
  refine⟨?_,?_,?_,?_,?_,?_,?_,?_,?_,?_,?_,?_,?_,?_,?_,?_,?_⟩
  ·intro D xs w1 hDk hwt hJ
   skip
   have hk1:=HA.out.keep hJ.b
   obtain⟨q1,q2⟩:=hk1.head
   have HJ:=hid hJ
   clear hDk hwt hJ hk1
   skip
   go_wp2_with fail
   first|exact⟨.pointer (some ⟨x,0,none⟩),by kernel_rfl,fun u hu=>by obtain rfl:=hu rfl;exact HJ.out.calm (by decide) (by decide) rfl (Below.refl _ _)⟩|exact⟨.pointer (some ⟨x,0,none⟩),by kernel_rfl,HJ.out.calm (i:=4) (by decide) (by decide) rfl (Below.refl _ _)⟩
  ·intro D xs w1 hDk hwt hJ
   have ee:xs 0=.pointer (some ⟨x,0,none⟩):=hJ.v 0 (hwt 0 (eM (by kernel_rfl))) (by decide) (by decide)
   rw[ee]
   clear ee
   have hk1:=HA.out.keep hJ.b
   obtain⟨q1,q2⟩:=hk1.head
   have HJ:=hid hJ
   clear hDk hwt hJ hk1
   skip
   go_wp2_with fail
   first|exact⟨.pointer (some ⟨x,0,none⟩),by kernel_rfl,fun u hu=>by obtain rfl:=hu rfl;exact HJ.out.calm (by decide) (by decide) rfl (Below.refl _ _)⟩|exact⟨.pointer (some ⟨x,0,none⟩),by kernel_rfl,HJ.out.calm (i:=4) (by decide) (by decide) rfl (Below.refl _ _)⟩
  ·intro D xs w1 hDk hwt hJ
   have ee:xs 1=.pointer (some ⟨x,0,none⟩):=hJ.v 1 (hwt 1 (eM (by kernel_rfl))) (by decide) (by decide)
   rw[ee]
   clear ee
   have hk1:=HA.out.keep hJ.b
   obtain⟨q1,q2⟩:=hk1.head
   have HJ:=hid hJ
   clear hDk hwt hJ hk1
   skip
   go_wp2_with fail
   first|exact⟨.pointer (some ⟨x,0,none⟩),by kernel_rfl,fun u hu=>by obtain rfl:=hu rfl;exact HJ.out.calm (by decide) (by decide) rfl (Below.refl _ _)⟩|exact⟨.pointer (some ⟨x,0,none⟩),by kernel_rfl,HJ.out.calm (i:=4) (by decide) (by decide) rfl (Below.refl _ _)⟩
  ·intro D xs w1 hDk hwt hJ
   have ee:xs 2=.pointer (some ⟨x,0,none⟩):=hJ.v 2 (hwt 2 (eM (by kernel_rfl))) (by decide) (by decide)
   rw[ee]
   clear ee
   have hk1:=HA.out.keep hJ.b
   obtain⟨q1,q2⟩:=hk1.head
   have HJ:=hid hJ
   clear hDk hwt hJ hk1
   skip
   go_wp2_with fail
   first|exact⟨.pointer (some ⟨x,0,none⟩),by kernel_rfl,fun u hu=>by obtain rfl:=hu rfl;exact HJ.out.calm (by decide) (by decide) rfl (Below.refl _ _)⟩|exact⟨.pointer (some ⟨x,0,none⟩),by kernel_rfl,HJ.out.calm (i:=4) (by decide) (by decide) rfl (Below.refl _ _)⟩
  ·intro D xs w1 hDk hwt hJ
   have ee:xs 3=.pointer (some ⟨x,0,none⟩):=hJ.v 3 (hwt 3 (eM (by kernel_rfl))) (by decide) (by decide)
   rw[ee]
   clear ee
   have hk1:=HA.out.keep hJ.b
   obtain⟨q1,q2⟩:=hk1.head
   have HJ:=hid hJ
   clear hDk hwt hJ hk1
   refine wpList_load_run rfl 247 (.tmp 9) rfl (.pointer (some ⟨x,0,none⟩)) (.agg rv) (by kernel_rfl) (HAT.out _ (HA.out.keep HJ.out.b)) ?_
   go_wp2_with fail
   first|exact⟨.agg rv,by kernel_rfl,fun u hu=>by obtain rfl:=hu rfl;exact HJ.out.calm (by decide) (by decide) rfl (Below.refl _ _)⟩|exact⟨.agg rv,by kernel_rfl,HJ.out.calm (i:=4) (by decide) (by decide) rfl (Below.refl _ _)⟩
  ·intro D xs w1 hDk hwt hJ
   skip
   have hk1:=HA.out.keep hJ.b
   obtain⟨q1,q2⟩:=hk1.head
   have HJ:=hid hJ
   clear hDk hwt hJ hk1
   skip
   go_wp2_with fail
   first|exact⟨.pointer (some ⟨x,0,none⟩),by kernel_rfl,fun u hu=>by obtain rfl:=hu rfl;exact HJ.out.calm (by decide) (by decide) rfl (Below.refl _ _)⟩|exact⟨.pointer (some ⟨x,0,none⟩),by kernel_rfl,HJ.out.calm (i:=4) (by decide) (by decide) rfl (Below.refl _ _)⟩
  ·intro D xs w1 hDk hwt hJ
   have ee:xs 5=.pointer (some ⟨x,0,none⟩):=hJ.v 5 (hwt 5 (eM (by kernel_rfl))) (by decide) (by decide)
   rw[ee]
   clear ee
   have hk1:=HA.out.keep hJ.b
   obtain⟨q1,q2⟩:=hk1.head
   have HJ:=hid hJ
   clear hDk hwt hJ hk1
   skip
   go_wp2_with fail
   first|exact⟨.pointer (some ⟨x,0,none⟩),by kernel_rfl,fun u hu=>by obtain rfl:=hu rfl;exact HJ.out.calm (by decide) (by decide) rfl (Below.refl _ _)⟩|exact⟨.pointer (some ⟨x,0,none⟩),by kernel_rfl,HJ.out.calm (i:=4) (by decide) (by decide) rfl (Below.refl _ _)⟩
  ·intro D xs w1 hDk hwt hJ
   have ee:xs 6=.pointer (some ⟨x,0,none⟩):=hJ.v 6 (hwt 6 (eM (by kernel_rfl))) (by decide) (by decide)
   rw[ee]
   clear ee
   have hk1:=HA.out.keep hJ.b
   obtain⟨q1,q2⟩:=hk1.head
   have HJ:=hid hJ
   clear hDk hwt hJ hk1
   skip
   go_wp2_with fail
   first|exact⟨.pointer (some ⟨x,0,none⟩),by kernel_rfl,fun u hu=>by obtain rfl:=hu rfl;exact HJ.out.calm (by decide) (by decide) rfl (Below.refl _ _)⟩|exact⟨.pointer (some ⟨x,0,none⟩),by kernel_rfl,HJ.out.calm (i:=4) (by decide) (by decide) rfl (Below.refl _ _)⟩
  ·intro D xs w1 hDk hwt hJ
   have ee:xs 7=.pointer (some ⟨x,0,none⟩):=hJ.v 7 (hwt 7 (eM (by kernel_rfl))) (by decide) (by decide)
   rw[ee]
   clear ee
   have hk1:=HA.out.keep hJ.b
   obtain⟨q1,q2⟩:=hk1.head
   have HJ:=hid hJ
   clear hDk hwt hJ hk1
   skip
   go_wp2_with fail
   first|exact⟨.pointer (some ⟨x,256,none⟩),by kernel_rfl,fun u hu=>by obtain rfl:=hu rfl;exact HJ.out.calm (by decide) (by decide) rfl (Below.refl _ _)⟩|exact⟨.pointer (some ⟨x,256,none⟩),by kernel_rfl,HJ.out.calm (i:=4) (by decide) (by decide) rfl (Below.refl _ _)⟩
  ·intro D xs w1 hDk hwt hJ
   have ee:xs 8=.pointer (some ⟨x,256,none⟩):=hJ.v 8 (hwt 8 (eM (by kernel_rfl))) (by decide) (by decide)
   rw[ee]
   clear ee
   have hk1:=HA.out.keep hJ.b
   obtain⟨q1,q2⟩:=hk1.head
   have HJ:=hid hJ
   clear hDk hwt hJ hk1
   skip
   go_wp2_with fail
   first|exact⟨.slice (some ⟨gr,0,none⟩) r r,by kernel_rfl,fun u hu=>by obtain rfl:=hu rfl;exact HJ.out.calm (by decide) (by decide) rfl (Below.refl _ _)⟩|exact⟨.slice (some ⟨gr,0,none⟩) r r,by kernel_rfl,HJ.out.calm (i:=4) (by decide) (by decide) rfl (Below.refl _ _)⟩
  ·intro D xs w1 hDk hwt hJ
   have ee:xs 9=.slice (some ⟨gr,0,none⟩) r r:=hJ.v 9 (hwt 9 (eM (by kernel_rfl))) (by decide) (by decide)
   rw[ee]
   clear ee
   have HJ:=hid hJ
   have HC:=hid (rclone (cp:=r) (z1z M r) w1 (refs_in (HA.out.keep hJ.b)) (refsL_len M r) (refsL_one M r) (by have:=HA.out.r1;omega) (by have:=HA.out.r2;omega))
   clear hDk hwt hJ
   go_wp2_with (go_at_call 90;refine HC.out.mono ?_;rintro e w2 ⟨g,cap,rfl,hg,_,hR,hb⟩)
   exact⟨.slice (some ⟨g,0,none⟩) r cap,by kernel_rfl,fun u hu=>by obtain rfl:=hu rfl;exact HJ.out.c10 hb hg hR⟩
  ·intro D xs w1 hDk hwt hJ
   skip
   have hk1:=HA.out.keep hJ.b
   obtain⟨q1,q2⟩:=hk1.head
   have HJ:=hid hJ
   clear hDk hwt hJ hk1
   skip
   go_wp2_with fail
   first|exact⟨.pointer (some ⟨x,0,none⟩),by kernel_rfl,fun u hu=>by obtain rfl:=hu rfl;exact HJ.out.calm (by decide) (by decide) rfl (Below.refl _ _)⟩|exact⟨.pointer (some ⟨x,0,none⟩),by kernel_rfl,HJ.out.calm (i:=4) (by decide) (by decide) rfl (Below.refl _ _)⟩
  ·intro D xs w1 hDk hwt hJ
   have ee:xs 11=.pointer (some ⟨x,0,none⟩):=hJ.v 11 (hwt 11 (eM (by kernel_rfl))) (by decide) (by decide)
   rw[ee]
   clear ee
   have hk1:=HA.out.keep hJ.b
   obtain⟨q1,q2⟩:=hk1.head
   have HJ:=hid hJ
   clear hDk hwt hJ hk1
   skip
   go_wp2_with fail
   first|exact⟨.pointer (some ⟨x,0,none⟩),by kernel_rfl,fun u hu=>by obtain rfl:=hu rfl;exact HJ.out.calm (by decide) (by decide) rfl (Below.refl _ _)⟩|exact⟨.pointer (some ⟨x,0,none⟩),by kernel_rfl,HJ.out.calm (i:=4) (by decide) (by decide) rfl (Below.refl _ _)⟩
  ·intro D xs w1 hDk hwt hJ
   have ee:xs 12=.pointer (some ⟨x,0,none⟩):=hJ.v 12 (hwt 12 (eM (by kernel_rfl))) (by decide) (by decide)
   rw[ee]
   clear ee
   have hk1:=HA.out.keep hJ.b
   obtain⟨q1,q2⟩:=hk1.head
   have HJ:=hid hJ
   clear hDk hwt hJ hk1
   skip
   go_wp2_with fail
   first|exact⟨.pointer (some ⟨x,0,none⟩),by kernel_rfl,fun u hu=>by obtain rfl:=hu rfl;exact HJ.out.calm (by decide) (by decide) rfl (Below.refl _ _)⟩|exact⟨.pointer (some ⟨x,0,none⟩),by kernel_rfl,HJ.out.calm (i:=4) (by decide) (by decide) rfl (Below.refl _ _)⟩
  ·intro D xs w1 hDk hwt hJ
   have ee:xs 13=.pointer (some ⟨x,0,none⟩):=hJ.v 13 (hwt 13 (eM (by kernel_rfl))) (by decide) (by decide)
   rw[ee]
   clear ee
   have hk1:=HA.out.keep hJ.b
   obtain⟨q1,q2⟩:=hk1.head
   have HJ:=hid hJ
   clear hDk hwt hJ hk1
   skip
   go_wp2_with fail
   first|exact⟨.pointer (some ⟨x,257,none⟩),by kernel_rfl,fun u hu=>by obtain rfl:=hu rfl;exact HJ.out.calm (by decide) (by decide) rfl (Below.refl _ _)⟩|exact⟨.pointer (some ⟨x,257,none⟩),by kernel_rfl,HJ.out.calm (i:=4) (by decide) (by decide) rfl (Below.refl _ _)⟩
  ·intro D xs w1 hDk hwt hJ
   have ee:xs 14=.pointer (some ⟨x,257,none⟩):=hJ.v 14 (hwt 14 (eM (by kernel_rfl))) (by decide) (by decide)
   rw[ee]
   clear ee
   have hk1:=HA.out.keep hJ.b
   obtain⟨q1,q2⟩:=hk1.head
   have HJ:=hid hJ
   clear hDk hwt hJ hk1
   skip
   go_wp2_with fail
   first|exact⟨.slice (some ⟨gu,0,none⟩) r r,by kernel_rfl,fun u hu=>by obtain rfl:=hu rfl;exact HJ.out.calm (by decide) (by decide) rfl (Below.refl _ _)⟩|exact⟨.slice (some ⟨gu,0,none⟩) r r,by kernel_rfl,HJ.out.calm (i:=4) (by decide) (by decide) rfl (Below.refl _ _)⟩
  ·intro D xs w1 hDk hwt hJ
   have ee:xs 15=.slice (some ⟨gu,0,none⟩) r r:=hJ.v 15 (hwt 15 (eM (by kernel_rfl))) (by decide) (by decide)
   rw[ee]
   clear ee
   have HJ:=hid hJ
   have HC:=hid (bclone (cp:=r) (usedL M r) w1 (used_in (HA.out.keep hJ.b)) (by unfold usedL;rw[List.length_map,List.length_range,Nat.mul_one]) (usedL_one M r) (by have:=HA.out.r1;omega) (by have:=HA.out.r2;omega))
   clear hDk hwt hJ
   go_wp2_with (go_at_call 210;refine HC.out.mono ?_;rintro e w2 ⟨g,cap,rfl,hg,_,hR,hb⟩)
   exact⟨.slice (some ⟨g,0,none⟩) r cap,by kernel_rfl,fun u hu=>by obtain rfl:=hu rfl;exact HJ.out.c16 hb⟩
 case hend =>
  intro D xs w1 hD hJ
  dsimp only[List.take,dsts,fill,List.drop]
  obtain⟨g1,c1,e1,l1,R1⟩:=hJ.e10 (hD 10 (by omega))
  obtain⟨g2,c2,e2⟩:=hJ.e16 (hD 16 (by omega))
  have e4:xs 4=.agg rv:=hJ.v 4 (hD 4 (by omega)) (by decide) (by decide)
  rw[e1,e2,e4]
  have HB:=hid hJ.b
  have HR:=hid (And.intro l1 R1)
  clear hJ e1 e2 e4 hD l1 R1
  refine wpList_build_run rfl 249 #[(0,.tmp 10),(1,.tmp 16),(2,.tmp 22)] rfl #[(0,.agg rv),(1,.slice (some ⟨g1,0,none⟩) r c1),(2,.slice (some ⟨g2,0,none⟩) r c2)] (.agg (rv.toList++[Value.slice (some ⟨g1,0,none⟩) r c1,Value.slice (some ⟨g2,0,none⟩) r c2]).toArray) (by kernel_rfl) (by rw[<- HRV.out];exact build_one M g1 g2 r c1 c2 w1) ?_
  have hn:(rv.toList++[Value.slice (some ⟨g1,0,none⟩) r c1,Value.slice (some ⟨g2,0,none⟩) r c2]).toArray=(atL M++[Value.slice (some ⟨g1,0,none⟩) r c1,Value.slice (some ⟨g2,0,none⟩) r c2]).toArray:=by rw[<- HRV.out]
  have HBT:=hid (build_two M g1 g2 r c1 c2 w1)
  rw[<- hn] at HBT
  have HN:=hid hn
  generalize (rv.toList++[Value.slice (some ⟨g1,0,none⟩) r c1,Value.slice (some ⟨g2,0,none⟩) r c2]).toArray=bv at *
  clear hn
  refine wpList_build_run rfl 251 #[(0,.tmp 23)] rfl #[(0,.agg bv)] (.agg bv) (by kernel_rfl) HBT.out ?_
  go_wp2
  go_ret
  refine⟨w1.heap.size,g1,rfl,⟨⟨bv,?_,?_,c1,?_⟩,?_,HA.out.r2,HA.out.at_le⟩,⟨HB.out.size,HR.out.1⟩,HB.out.alloc HB.out.size _⟩
  ·exact z0a _ _
  ·intro b hb
   rw[HN.out,List.getElem?_toArray,List.getElem?_append_left (by rw[atL_len];exact hb),atL_get M hb]
  ·rw[HN.out,List.getElem?_toArray,List.getElem?_append_right (by rw[atL_len];exact Nat.le_refl _),atL_len];rfl
  ·obtain⟨cs,h1,h2⟩:=HR.out.2
   refine⟨cs,z0m h1,fun p hp=>⟨(h2 _ (by rw[refsL_len];omega)).trans ((refsL_get M (by omega)).trans ?_),(h2 _ (by rw[refsL_len];omega)).trans ((refsL_get M (by omega)).trans ?_)⟩⟩
   ·rw[if_pos (by omega)];congr 3;omega
   ·rw[if_neg (by omega)];congr 3;omega
end
end Go.Proofs.YtgdmfledhhoedaaGreatDoor.M
namespace Go.Burg
open Go
abbrev Bt (M:Mw):={ b:Nat // b<256/\0<M.at' b }
def Mw.bt (M:Mw) (b:Nat):Option (Bt M):=if h:b<256/\0<M.at' b then some ⟨b,h⟩ else none
def Mw.on (M:Mw) (k:Nat):List (Bt M):=(List.range k).filterMap M.bt
variable {M:Mw} {k:Nat}
theorem Mw.on_yes (hk:k<256) (h:0<M.at' k):M.on (k+1)=M.on k++[⟨k,hk,h⟩]:=by
 unfold Mw.on
 rw[List.range_succ,List.filterMap_append]
 have:M.bt k=some ⟨k,hk,h⟩:=dif_pos ⟨hk,h⟩
 simp[this]
theorem Mw.on_no (h:M.at' k=0):M.on (k+1)=M.on k:=by
 unfold Mw.on
 rw[List.range_succ,List.filterMap_append]
 have:M.bt k=none:=dif_neg (by omega)
 simp[this]
theorem Mw.on_len (M:Mw) (k:Nat):(M.on k).length<=k:=by
 have:=List.length_filterMap_le M.bt (List.range k)
 simpa[Mw.on] using this
theorem Mw.on_pre (M:Mw) {j k:Nat} (h:j<=k):M.on j <+: M.on k:=by
 obtain⟨d,rfl⟩:=Nat.le.dest h
 unfold Mw.on
 rw[show List.range (j+d)=List.range j++(List.range d).map (j+·) from List.range_add,List.filterMap_append]
 exact List.prefix_append _ _
def Mw.kd (M:Mw) (b:Nat):Kd:=⟨b,M.s (M.at' b - 1),M.g (M.at' b - 1)⟩
theorem Mw.on_kd (M:Mw) {k:Nat} (hk:k<=256):(M.on k).map (fun b=>M.kd b.1)=M.upto k:=by
 induction k with
 | zero=>rfl
 | succ k ih =>
  have e:M.upto (k+1)=M.upto k++(M.look k).toList:=by
   unfold Mw.upto
   rw[List.range_succ,List.filterMap_append]
   cases h:M.look k<;>simp[h]
  rw[e]
  by_cases h:M.at' k=0
  ·rw[Mw.on_no h,ih (by omega)]
   simp[Mw.look,h]
  ·rw[Mw.on_yes (by omega) (by omega),List.map_append,ih (by omega)]
   simp[Mw.look,h,Mw.kd]
end Go.Burg
namespace Go.Proofs.YtgdmfledhhoedaaGreatDoor.M
set_option maxRecDepth 8000
open Go.ChangeShapes Go.WideShapes Go.ChangeAt Go.RowKit Go.Burg Go.Shelf
attribute [local go_sem] Oper.semAt_some
variable {x:Nat}
theorem bytes_at (w:World) :
 Calls Tryz.prog 205 #[.int .i64 0,.func (.func 206) #[.pointer (some ⟨x,0,none⟩)] #[]] w fun e w'=>e=.returned (.func (.func 211) #[] #[.pointer (some ⟨w.heap.size,0,none⟩),.pointer (some ⟨(w.heap.size+1),0,none⟩)])/\w'=(w.alloc (.cells #[.int .i64 0] 3 (0,0))).alloc (.cells #[.func (.func 206) #[.pointer (some ⟨x,0,none⟩)] #[]] 208 (0,0)):=by
 have hmf:=makeF Tryz.prog
 go_enter Tryz.func205,Tryz.ntmps205
 go_wp2_with fail
 go_ret
 exact⟨rfl,rfl⟩
def encB {M:Mw} (b:Bt M):Array Value:=#[.int .i64 b.1]
set_option maxRecDepth 100000 in
set_option maxHeartbeats 4000000 in
theorem bytes_own (A x gr r n₀:Nat) (M:Mw) (w0:World) (hA:w0.heap[A]?=some (.cells #[.int .i64 0] 3 (0,0))) (hA1:w0.heap[A+1]?=some (.cells #[.func (.func 206) #[.pointer (some ⟨x,0,none⟩)] #[]] 208 (0,0))) (hC:CopyAt w0 x gr r M) (h1:n₀<=A) (h2:n₀<=x) (h3:n₀<=gr) (hN:n₀<=w0.heap.size) (Mine:World->Nat->Prop) (hMine:MineOk n₀ Mine) (m1:¬ Mine w0 (A+1)) (m2:¬ Mine w0 x) (m3:¬ Mine w0 gr) :
 SeqOwnM Mine Tryz.prog 211 #[.pointer (some ⟨A,0,none⟩),.pointer (some ⟨(A+1),0,none⟩)] encB n₀ (fun xs=>xs=M.on 256) (fun pre=>pre <+: M.on 256) 256 w0:=by
 intro LL J Jx W hW _ hJ hJx hY h0
 have hB0:=(hW.block A (lt_of_block hA)).trans hA
 have hB1:=(hW.block (A+1) (lt_of_block hA1)).trans hA1
 have hC1:=hC.keep hW
 have b0:=cell_of hB0 0
 have HMW:=hid (And.intro (hMine.priv hN m1 hW) (And.intro (hMine.priv hN m2 hW) (hMine.priv hN m3 hW)))
 have hsW:=hW.size
 have HY:=hid hY
 have HB1:=hid hB1
 have HC1:=hid hC1
 clear hY hW hB0 hB1 hC1 hA hA1 hC
 refine (callsIn_wide (n:=8)).1 ?_
 refine callsIn_of_wp Tryz.func211 rfl trivial ?_ rfl
 simp only[Tryz.ntmps211,List.size_toArray,List.length_cons,List.length_nil,Nat.reduceAdd,Nat.reduceSub,Array.replicate_succ,Array.replicate_zero,List.push_toArray,List.append_toArray,List.nil_append,List.cons_append]
 gi_wp2_with fail
 gi_loopw [4] (fun iv wr=>∃ k:Nat,k<=256/\iv=.int .i64 k/\J (M.on k) wr/\CopyAt wr x gr r M/\wr.heap[A+1]?=some (.cells #[.func (.func 206) #[.pointer (some ⟨x,0,none⟩)] #[]] 208 (0,0))/\(¬ Mine wr (A+1)/\¬ Mine wr x/\¬ Mine wr gr)) (fun iv _=>256 - (intOf iv).toNat)
 case atStart=>exact⟨0,by omega,rfl,h0,HC1.out,HB1.out,HMW.out⟩
 case round =>
  clear h0 HC1 HB1 b0 HMW
  obtain⟨k,hk,rfl,hJs,hC,hB,hmm⟩:=hrel
  by_cases hlt:k<256
  ·have b1:=cell_of hB 0
   have HJS:=hid hJs
   have HC:=hid hC
   have HB:=hid hB
   have HMM:=hid hmm
   have HH:=hid (has_c k hlt hC)
   clear hJs hC hB hmm
   by_cases h0:M.at' k=0
   ·have HU:=hid (Mw.on_no h0)
    rw[h0] at HH
    clear h0
    gi_wp2_with fail
    refine⟨trivial,?_⟩
    refine ((callsIn_wide (n:=7)).2 HH.out).mono ?_
    rintro e w1 ⟨rfl,rfl⟩
    gi_wp2_with fail
    all_goals refine⟨fun _ h=>(by cases h),?_⟩
    all_goals gi_wp2_with fail
    all_goals go_roundw
    all_goals first|exact⟨k+1,by omega,by go_num,by rw[HU.out];exact HJS.out,HC.out,HB.out,HMM.out⟩|(simp[intOf];omega)
   ·have h1:0<M.at' k:=by omega
    have HU:=hid (Mw.on_yes hlt h1)
    have hd:decide (0<M.at' k)=true:=by simpa using h1
    rw[hd] at HH
    clear hd
    obtain⟨fn,tmps,assign,body,hy,hR⟩:=HY.out _ ⟨k,hlt,h1⟩ _ 7 HJS.out (Nat.lt_of_le_of_lt (Mw.on_len M k) hlt)
    unfold encB at hy
    dsimp only at hy
    clear h0
    have HRR:=hid hR
    clear hR
    gi_wp2_with fail
    refine⟨trivial,?_⟩
    refine ((callsIn_wide (n:=7)).2 HH.out).mono ?_
    rintro e w1 ⟨rfl,rfl⟩
    gi_wp2_with fail
    refine HRR.out.mono ?_
    rintro e W3 (⟨rfl,hJ3,hk3,_⟩|⟨rfl,hJx3,_⟩)
    ·have HJ3:=hid hJ3
     have HC3:Hid (CopyAt W3 x gr r M):=hid (HC.out.turned (hk3.cells x · h2 HMM.out.2.1) (hk3.cells gr · h3 HMM.out.2.2))
     have HB3:Hid (W3.heap[A+1]?=some (.cells #[.func (.func 206) #[.pointer (some ⟨x,0,none⟩)] #[]] 208 (0,0))):=hid (hk3.cells (A+1) _ (by omega) HMM.out.1 HB.out rfl)
     have HMM3:=hid (And.intro (hk3.priv HMM.out.1 (lt_of_block HB.out)) (And.intro (hk3.priv HMM.out.2.1 HC.out.lt.1) (hk3.priv HMM.out.2.2 HC.out.lt.2)))
     clear hJ3 hk3 HRR HC HB HJS
     gi_wp2_with fail
     go_roundw
     case rel=>exact⟨k+1,by omega,by go_num,by rw[HU.out];exact HJ3.out,HC3.out,HB3.out,HMM3.out⟩
     case measure=>simp[intOf];omega
    ·have HJ3:=hid hJx3
     clear hJx3 HRR HC HB HJS
     gi_wp2_with fail
     refine bodyPost_ret (results_none rfl _ _ _) rfl ?_
     exact⟨⟨_,rfl⟩,.inr ⟨_,by rw[<- HU.out];exact Mw.on_pre M (by omega),HJ3.out⟩⟩
  ·obtain rfl:k=256:=by omega
   clear hlt HY
   gi_wp2_with fail
   go_end0
   exact⟨⟨_,rfl⟩,.inl ⟨_,rfl,hJs⟩⟩
attribute [local go_sem] Oper.semAt_some
theorem mAll_at (w:World) :
 Calls Tryz.prog 196 #[.pointer (some ⟨x,0,none⟩)] w fun e w'=>e=.returned (.func (.func 203) #[] #[.pointer (some ⟨w.heap.size,0,none⟩)])/\w'=w.alloc (.cells #[.pointer (some ⟨x,0,none⟩)] 232 (0,0)):=by
 have hmf:=makeF Tryz.prog
 go_enter Tryz.func196,Tryz.ntmps196
 go_wp2_with fail
 go_ret
 exact⟨rfl,rfl⟩
set_option maxRecDepth 100000 in
set_option maxHeartbeats 8000000 in
theorem mAll1_own (B x gr gu r:Nat) (L:List Kd) (w0:World) (hB:w0.heap[B]?=some (.cells #[.pointer (some ⟨x,0,none⟩)] 232 (0,0))) (hK:ManyK 251 36 4 w0 x gr gu r L) :
 SeqOwn Tryz.prog 203 #[.pointer (some ⟨B,0,none⟩)] F.encK w0.heap.size (fun xs=>xs=L) (fun pre=>pre <+: L) 256 w0:=by
 intro Mine hMine LL J Jx W hW hml hJ hJx hY h0
 obtain⟨M,hA,hL⟩:=hK.m
 have hA1:=hA.same (hW.block _ hA.lt.1) (hW.block _ hA.lt.2.1) (hW.block _ hA.lt.2.2)
 have hB1:=(hW.block B (lt_of_block hB)).trans hB
 have hJ1:=own_below hJ h0 ((Below.refl _ _).alloc (Nat.le_refl _) (.cells #[.func (.yield LL) #[] #[]] 291 (0,0)))
 have hA2:=hA1.alloc (.cells #[.func (.yield LL) #[] #[]] 291 (0,0))
 have hWB:Below W.heap.size W (W.alloc (.cells #[.func (.yield LL) #[] #[]] 291 (0,0))):=(Below.refl _ _).alloc (Nat.le_refl _) _
 have hu:=z0a W (.cells #[.func (.yield LL) #[] #[]] 291 (0,0))
 have hB2:=z0m (o':=(.cells #[.func (.yield LL) #[] #[]] 291 (0,0))) hB1
 have hsz:w0.heap.size<=W.heap.size:=hW.size
 have hlt:=lt_of_block hu
 refine (callsIn_wide (n:=8)).1 ?_
 refine callsIn_of_wp_marks Tryz.func203 rfl trivial ?_ rfl
 refine wpIn_wide.2 ?_
 simp only[Tryz.ntmps203,List.size_toArray,List.length_cons,List.length_nil,Nat.reduceAdd,Nat.reduceSub,Array.replicate_succ,Array.replicate_zero,List.push_toArray,List.append_toArray,List.nil_append,List.cons_append]
 have b0:=cell_of hB1 0
 have hBl:=lt_of_block hB1
 clear h0 hW hA hB hK hA1 hB1
 go_wp2_with fail
 generalize hWu:W.alloc (.cells #[.func (.yield LL) #[] #[]] 291 (0,0))=Wu at *
 generalize hc:W.heap.size=u at *
 have HJ1:=hid hJ1
 have HWB:=hid hWB
 have HML:=hid hml
 have HB2:=hid hB2
 have HU:=hid hu
 have HWu:=hid hWu
 clear hJ1 hB2 hu hWu b0 hWB hml
 refine (copy_at hA2).mono ?_
 rintro e w1 ⟨x',gr',rfl,hC,⟨l1,l2⟩,hb1⟩
 have HJ2:=hid (own_below hJ HJ1.out hb1)
 have HU2:=hid ((hb1.block u hlt).trans HU.out)
 have HWB1:=hid (z0d HWB.out hb1 (by omega))
 have HC:=hid hC
 have hs1:=hb1.size
 clear hC hb1 hA2 HJ1 HU
 go_wp2_with fail
 have hv:=z0a w1 (.cells #[.pointer (some ⟨x',0,none⟩)] 232 (0,0))
 have hsv:(w1.alloc (.cells #[.pointer (some ⟨x',0,none⟩)] 232 (0,0))).heap.size=w1.heap.size+1:=by simp
 refine (bytes_at (x:=x') _).mono ?_
 rintro e w2 ⟨rfl,rfl⟩
 rw[hsv]
 go_wp2_with fail
 have hk1:=z0a (w1.alloc (.cells #[.pointer (some ⟨x',0,none⟩)] 232 (0,0))) (.cells #[.int .i64 0] 3 (0,0))
 rw[hsv] at hk1
 have hs2:((w1.alloc (.cells #[.pointer (some ⟨x',0,none⟩)] 232 (0,0))).alloc (.cells #[.int .i64 0] 3 (0,0))).heap.size=w1.heap.size+1+1:=by simp
 have hk2:=z0a ((w1.alloc (.cells #[.pointer (some ⟨x',0,none⟩)] 232 (0,0))).alloc (.cells #[.int .i64 0] 3 (0,0))) (.cells #[.func (.func 206) #[.pointer (some ⟨x',0,none⟩)] #[]] 208 (0,0))
 rw[hs2] at hk2
 have hk1:=z0m (o':=.cells #[.func (.func 206) #[.pointer (some ⟨x',0,none⟩)] #[]] 208 (0,0)) hk1
 have hv:=z0m (o':=.cells #[.func (.func 206) #[.pointer (some ⟨x',0,none⟩)] #[]] 208 (0,0)) (z0m (o':=.cells #[.int .i64 0] 3 (0,0)) hv)
 have hbw:Below w1.heap.size w1 (((w1.alloc (.cells #[.pointer (some ⟨x',0,none⟩)] 232 (0,0))).alloc (.cells #[.int .i64 0] 3 (0,0))).alloc (.cells #[.func (.func 206) #[.pointer (some ⟨x',0,none⟩)] #[]] 208 (0,0))):=(((Below.refl _ _).alloc (Nat.le_refl _) _).alloc (by simp) _).alloc (by simp;omega) _
 generalize hw3:((w1.alloc (.cells #[.pointer (some ⟨x',0,none⟩)] 232 (0,0))).alloc (.cells #[.int .i64 0] 3 (0,0))).alloc (.cells #[.func (.func 206) #[.pointer (some ⟨x',0,none⟩)] #[]] 208 (0,0))=w3 at *
 have HJ3:=hid (own_below hJ HJ2.out hbw)
 have HC3:=hid (HC.out.keep hbw)
 have HU3:=hid ((hbw.block u (lt_of_block HU2.out)).trans HU2.out)
 have HV3:=hid hv
 have hs3:=hbw.size
 have hu1:=lt_of_block HU2.out
 have HWB3:=hid (z0d HWB1.out hbw (by omega))
 generalize w1.heap.size=v at *
 have hl3:=HC3.out.lt
 have hu3:=lt_of_block HU3.out
 have hv3:=lt_of_block HV3.out
 have HK1:=hid hk1
 have HK2:=hid hk2
 clear hk1 hk2 hv hsv hs2 hbw hw3 HJ2 HU2 HC HB2 HWu hs1
 have hn3:w0.heap.size<=w3.heap.size:=by omega
 have HM3:Hid (¬ Mine w3 u/\¬ Mine w3 v/\¬ Mine w3 x'/\¬ Mine w3 gr'/\¬ Mine w3 (v+1+1)):=hid (by
  have hno:∀ k,u<=k->¬ Mine w3 k:=fun k hk hm=>by
   have h1:=HML.out k (hMine.grow (W:=W) (by omega) (z0w (by rw[hc];exact HWB3.out)) (fun r e=>by cases e) hm)
   omega
  exact⟨hno _ (Nat.le_refl _),hno _ (by omega),hno _ (by omega),hno _ (by omega),hno _ (by omega)⟩)
 have HML3:Hid (∀ i,Mine w3 i->i<w3.heap.size):=hid fun i hm=>by
  have h1:=HML.out i (hMine.grow (W:=W) (by omega) (z0w (by rw[hc];exact HWB3.out)) (fun r e=>by cases e) hm)
  omega
 have hI0:OwnFrom w3.heap.size (fun (pre:List (Bt M)) W=>J (pre.map fun b=>M.kd b.1) W/\CopyAt W x' gr' r M/\W.heap[u]?=some (.cells #[.func (.yield LL) #[] #[]] 291 (0,0))/\W.heap[v]?=some (.cells #[.pointer (some ⟨x',0,none⟩)] 232 (0,0))/\(¬ Mine W u/\¬ Mine W v/\¬ Mine W x'/\¬ Mine W gr')):=by
  intro s A C row hs hg hr
  have e:∀ (k:Nat),k<w3.heap.size->k<A.heap.size->C.heap[k]?=A.heap[k]?:=fun k hk hA=>hg.block k hA (fun e=>by have:=(hr k e.symm).1;omega)
  exact⟨hJ _ A C row hs.1 hg (fun r e=>⟨by have:=(hr r e).1;omega,(hr r e).2⟩),⟨by obtain⟨c,a,b⟩:=hs.2.1.hx;exact⟨c,(e _ hl3.1 (lt_of_block a)).trans a,b⟩,by obtain⟨c,a,b⟩:=hs.2.1.hr;exact⟨c,(e _ hl3.2 (lt_of_block a)).trans a,b⟩,hs.2.1.r2,hs.2.1.at_le⟩,
   (e _ hu3 (lt_of_block hs.2.2.1)).trans hs.2.2.1,(e _ hv3 (lt_of_block hs.2.2.2.1)).trans hs.2.2.2.1,by
    have hg2:∀ k,Mine C k->Mine A k:=fun k=>hMine.grow (by have:=lt_of_block hs.2.2.1;omega) hg (fun r e=>⟨by have:=(hr r e).1;omega,(hr r e).2⟩)
    obtain⟨a1,a2,a3,a4⟩:=hs.2.2.2.2
    exact⟨fun h=>a1 (hg2 _ h),fun h=>a2 (hg2 _ h),fun h=>a3 (hg2 _ h),fun h=>a4 (hg2 _ h)⟩⟩
 have hX0:OwnFrom w3.heap.size (fun (pre:List (Bt M)) W=>Jx (pre.map fun b=>M.kd b.1) W):=fun s A C row hs hg hr=>hJx _ A C row hs hg (fun r e=>⟨by have:=(hr r e).1;omega,(hr r e).2⟩)
 have HI:=hid hI0
 have HX:=hid hX0
 have HY:=hid hY
 have HJo:=hid hJ
 have HJx:=hid hJx
 have HL:=hid hL
 clear hI0 hX0 hY hJ hJx hL
 refine wpIn_wide.1 (range_own (n:=8) (by decide) (gf:=211) (lb:=#[.pointer (some ⟨(v+1),0,none⟩),.pointer (some ⟨(v+1+1),0,none⟩)]) rfl (enters_of Tryz.func211 (by kernel_rfl) rfl) Mine hMine (bytes_own (v+1) x' gr' r w0.heap.size M w3 HK1.out HK2.out HC3.out (by omega) (by omega) (by omega) hn3 Mine hMine HM3.out.2.2.2.2 HM3.out.2.2.1 HM3.out.2.2.2.1) hn3 HML3.out (Below.refl _ _) (fun _=>rfl)
  (fun (pre:List (Bt M)) W=>J (pre.map fun b=>M.kd b.1) W/\CopyAt W x' gr' r M/\W.heap[u]?=some (.cells #[.func (.yield LL) #[] #[]] 291 (0,0))/\W.heap[v]?=some (.cells #[.pointer (some ⟨x',0,none⟩)] 232 (0,0))/\(¬ Mine W u/\¬ Mine W v/\¬ Mine W x'/\¬ Mine W gr')) (fun (pre:List (Bt M)) W=>Jx (pre.map fun b=>M.kd b.1) W) HI.out HX.out ⟨HJ3.out,HC3.out,HU3.out,HV3.out,HM3.out.1,HM3.out.2.1,HM3.out.2.2.1,HM3.out.2.2.2.1⟩
  (fun (b:Bt M) a' _=>a'={ tmps:=#[.func (.yield LL) #[] #[],.pointer (some ⟨B,0,none⟩),.pointer (some ⟨u,0,none⟩),.pointer (some ⟨v,0,none⟩),.int .i64 b.1,.pointer (some ⟨x,0,none⟩),.pointer (some ⟨x',0,none⟩),.pointer (some ⟨x',0,none⟩),.bool false,.pointer (some ⟨x',0,none⟩),.pointer (some ⟨x',0,none⟩),.pointer (some ⟨x',0,none⟩),.func (.func 206) #[.pointer (some ⟨x',0,none⟩)] #[],.func (.func 211) #[] #[.pointer (some ⟨(v+1),0,none⟩),.pointer (some ⟨(v+1+1),0,none⟩)],.int .i64 b.1,undef,undef,undef,undef,undef,undef,undef,undef,undef,undef,undef,undef],defers:=[] }) (fun _ _ _ _ _ _ h _ _=>h) ?assign ?body ?done ?stop)
 case assign =>
  intro l pre b W1 K hi hK
  dsimp only[encB]
  gi_wp2_with fail
  exact hK _ _ (KeepsFrom.refl _ _) (KpM.refl _ _ _) hi rfl
 case body =>
  rintro l pre ⟨b,hb⟩ a' W1 hl hrec ⟨hj,hc1,hu1,hv1,hmm⟩ rfl hlen
  have HB:=hid hb
  have hb256:=hb.1
  have hbp:M.at' b=(M.at' b - 1)+1:=by have:=hb.2;omega
  have HBP:=hid hbp
  have hpr:M.at' b - 1<r:=by have:=hc1.at_le b hb.1;have:=hb.2;omega
  have HPR:=hid hpr
  have HJ4:=hid hj
  have HC4:=hid hc1
  have HU4:=hid hu1
  have HV4:=hid hv1
  have HMM:=hid hmm
  clear hj hc1 hu1 hv1 hbp hpr hmm
  gi_wp2_with fail
  refine rgn_seq (fok_round _ _) (by kernel_rfl) 10 (fun w1=>Below (W1).heap.size (W1) w1) (by kernel_rfl) (by kernel_rfl) (by kernel_rfl) ⟨rfl,rfl,rfl,Nat.le_refl _,fun _ _=>rfl⟩ ?_
  dsimp only[List.take]
  iterate 10
   refine Seq.cons (a':=?_) ?_ ?_ ?_
   rotate_left
   ·intro w1 hw1
    have k0:=cell_of ((hw1.block u (lt_of_block HU4.out)).trans HU4.out) 0;have k1:=cell_of ((hw1.block v (lt_of_block HV4.out)).trans HV4.out) 0;have q:=(HC4.out.keep hw1).ref HPR.out;have q0:=q.1;have q1:=q.2;clear q
    go_wp2_with (go_at_call 207;refine (ref_c b (M.at' b - 1) HB.out.1 (HC4.out.keep hw1) HBP.out).mono ?_;rintro e w' ⟨rfl,hb⟩)
    refine⟨?_,by first|assumption|(simpa using z0d hw1 hb hw1.size)⟩
    exact rfl
   ·kernel_rfl
  refine SeqI.nil ?_
  intro _ w1 _ hw1
  dsimp only[List.drop]
  have HJ5:=hid (own_below HJo.out HJ4.out hw1)
  have HC5:=hid (HC4.out.keep hw1)
  have HU5:=hid ((hw1.block u (lt_of_block HU4.out)).trans HU4.out)
  have HV5:=hid ((hw1.block v (lt_of_block HV4.out)).trans HV4.out)
  have HKA:=hid (z1n (B:=w3.heap.size) hw1)
  have hnW:w0.heap.size<=W1.heap.size:=by have:=lt_of_block HU4.out;omega
  have HKC:=hid (KpM.below hMine hnW hw1)
  have HM5:Hid (¬ Mine w1 u/\¬ Mine w1 v/\¬ Mine w1 x'/\¬ Mine w1 gr'):=hid ⟨hMine.priv hnW HMM.out.1 hw1,hMine.priv hnW HMM.out.2.1 hw1,hMine.priv hnW HMM.out.2.2.1 hw1,hMine.priv hnW HMM.out.2.2.2 hw1⟩
  clear HJ4 HC4 HU4 HV4 hw1
  obtain⟨fn,tmps,assign,body,hy,hR⟩:=HY.out _ (M.kd b) _ 5 HJ5.out (by rw[List.length_map];exact hlen)
  unfold F.encK Mw.kd at hy
  dsimp only at hy
  have HRR:=hid (z2w l hR)
  clear hR
  gi_wp2_with fail
  refine HRR.out.mono ?_
  rintro e W3 (⟨rfl,hJ3,hk3,hq3⟩|⟨rfl,hJx3,hq3⟩)
  ·have HJ6:=hid hJ3
   have HC6:Hid (CopyAt W3 x' gr' r M):=hid (HC5.out.turned (hk3.cells x' · (by omega) HM5.out.2.2.1) (hk3.cells gr' · (by omega) HM5.out.2.2.2))
   have HU6:Hid (W3.heap[u]?=some (.cells #[.func (.yield LL) #[] #[]] 291 (0,0))):=hid (hk3.cells u _ (by omega) HM5.out.1 HU5.out rfl)
   have HV6:Hid (W3.heap[v]?=some (.cells #[.pointer (some ⟨x',0,none⟩)] 232 (0,0))):=hid (hk3.cells v _ (by omega) HM5.out.2.1 HV5.out rfl)
   have HM6:Hid (¬ Mine W3 u/\¬ Mine W3 v/\¬ Mine W3 x'/\¬ Mine W3 gr'):=hid ⟨hk3.priv HM5.out.1 (lt_of_block HU5.out),hk3.priv HM5.out.2.1 (lt_of_block HV5.out),hk3.priv HM5.out.2.2.1 HC5.out.lt.1,hk3.priv HM5.out.2.2.2 HC5.out.lt.2⟩
   have HKC6:=hid (HKC.out.trans hk3)
   have HKA6:=hid (HKA.out.trans (z0o hq3 (by omega)))
   clear hJ3 hk3 hq3 HRR
   gi_wp2_with fail
   refine⟨HKA6.out,HKC6.out,?_,HC6.out,HU6.out,HV6.out,HM6.out⟩
   rw[List.map_append]
   exact HJ6.out
  ·have HJ6:=hid hJx3
   have HKA6:=hid (HKA.out.trans (z0o hq3 (by omega)))
   clear hJx3 hq3 HRR
   gi_wp2_with fail
   refine⟨HKA6.out,?_⟩
   show Jx (List.map _ (pre++[_])) W3
   rw[List.map_append]
   exact HJ6.out
 case done =>
  rintro D xs W4 hD rfl ⟨hj,_⟩ hK
  gi_wp2_with fail
  refine⟨by simp,.inl ⟨_,_,rfl,run_takeDeferred hK,?_⟩⟩
  have hj2:=HJo.out.putObj (.deferred none) hj (by omega) hK rfl
  rw[Mw.on_kd M (Nat.le_refl _),HL.out.all] at hj2
  exact⟨_,results_none rfl _ _ _,⟨_,rfl⟩,.inl ⟨_,rfl,hj2⟩⟩
 case stop =>
  rintro D pre W4 hD hpre hj hK
  gi_wp2_with fail
  refine⟨by simp,.inl ⟨_,_,rfl,run_takeDeferred hK,?_⟩⟩
  refine⟨_,results_none rfl _ _ _,⟨_,rfl⟩,.inr ⟨_,?_,HJx.out.putObj (.deferred none) hj (by omega) hK rfl⟩⟩
  have:=hpre.map (fun b=>M.kd b.1)
  rwa [Mw.on_kd M (Nat.le_refl _),HL.out.all] at this
end Go.Proofs.YtgdmfledhhoedaaGreatDoor.M
namespace Go.Burg
open Go Go.RowKit
def roomsL:List Int:=[0,0,4,16,48,256]
structure RoomsAt (w:World):Prop where
 c:∀ (k:Nat) (v:Int),roomsL[k]?=some v->w.cell? ⟨0,k,none⟩=some (.int .i64 v)
variable {w w':World}
theorem RoomsAt.lt (h:RoomsAt w):0<w.heap.size:=by
 have:=h.c 0 0 rfl
 rcases Nat.lt_or_ge 0 w.heap.size with h1|h1
 ·exact h1
 ·have e:w.heap[0]?=none:=Array.getElem?_eq_none (by omega)
  simp[World.cell?,e] at this
theorem RoomsAt.same (h:RoomsAt w) (e:w'.heap[0]?=w.heap[0]?):RoomsAt w':=⟨fun k v hk=>(World.cell?_of_block (w:=w) e).trans (h.c k v hk)⟩
theorem RoomsAt.keep (h:RoomsAt w) (k:Below w.heap.size w w'):RoomsAt w':=h.same (k.block 0 h.lt)
theorem RoomsAt.below {B:Nat} (h:RoomsAt w) (k:Below B w w') (hB:0<B):RoomsAt w':=h.same (k.block 0 hB)
theorem RoomsAt.alloc {w:World} (h:RoomsAt w) (o:Obj):RoomsAt (w.alloc o):=h.same (Below.heap_alloc _ _ _ h.lt)
def z0v (k:Nat):Nat:=[0,0,4,16,48,256].getD k 0
def kindOf (n:Nat):Nat:=if n<=4 then 2 else if n<=16 then 3 else if n<=48 then 4 else if n<=256 then 5 else 0
end Go.Burg
namespace Go.Proofs.YtgdmfledhhoedaaGreatDoor.O
set_option maxRecDepth 8000
open Go.ChangeShapes Go.WideShapes Go.ChangeAt Go.RowKit Go.Burg
theorem room_at (k:Nat) (hk:k<=5) (w:World) (h:RoomsAt w):Calls Tryz.prog 77 #[.int .i64 k] w fun e w'=>e=.returned (.int .i64 (z0v k))/\w=w':=by
 have hc:=h.c
 clear h
 rcases (by omega:k=0\/k=1\/k=2\/k=3\/k=4\/k=5) with rfl|rfl|rfl|rfl|rfl|rfl
 ·have c0:=hc 0 _ rfl;clear hc;go_enter Tryz.func77,Tryz.ntmps77;go_wp2;go_ret;exact⟨rfl,rfl⟩
 ·have c0:=hc 1 _ rfl;clear hc;go_enter Tryz.func77,Tryz.ntmps77;go_wp2;go_ret;exact⟨rfl,rfl⟩
 ·have c0:=hc 2 _ rfl;clear hc;go_enter Tryz.func77,Tryz.ntmps77;go_wp2;go_ret;exact⟨rfl,rfl⟩
 ·have c0:=hc 3 _ rfl;clear hc;go_enter Tryz.func77,Tryz.ntmps77;go_wp2;go_ret;exact⟨rfl,rfl⟩
 ·have c0:=hc 4 _ rfl;clear hc;go_enter Tryz.func77,Tryz.ntmps77;go_wp2;go_ret;exact⟨rfl,rfl⟩
 ·have c0:=hc 5 _ rfl;clear hc;go_enter Tryz.func77,Tryz.ntmps77;go_wp2;go_ret;exact⟨rfl,rfl⟩
end Go.Proofs.YtgdmfledhhoedaaGreatDoor.O
namespace Go.Burg
open Go Go.RowKit
structure Tests (P:Program) (W:World) (nv:Value) (fs:List Nat) (bs:Nat->Bool):Prop where
 t:∀ k f,fs[k]?=some f->(∀ args w,(callFunc f args).run P w=.ok (.enter f args) w)/\∀ w1,Below W.heap.size W w1->Calls P f #[nv] w1 fun e w'=>e=.returned (.bool (bs k))/\Below w1.heap.size w1 w'
def testsL (nv:Value) (fs:List Nat):List Value:=fs.map fun f=>.func (.func f) #[nv] #[]
def firstNo (bs:Nat->Bool) (n:Nat) (r:Int):Prop:=(∃ k:Nat,r=k/\k<n/\bs k=false/\∀ j,j<k->bs j=true)\/(r=-1/\∀ j,j<n->bs j=true)
theorem firstNo_ex (bs:Nat->Bool):∀ n,∃ r,firstNo bs n r:=by
 intro n
 induction n with
 | zero=>exact⟨-1,.inr ⟨rfl,fun j hj=>by omega⟩⟩
 | succ n ih =>
  obtain⟨r,h|⟨rfl,h⟩⟩:=ih
  ·obtain⟨k,rfl,h1,h2,h3⟩:=h
   exact⟨k,.inl ⟨k,rfl,by omega,h2,h3⟩⟩
  ·cases hb:bs n with
   | false=>exact⟨n,.inl ⟨n,rfl,by omega,hb,h⟩⟩
   | true=>exact⟨-1,.inr ⟨rfl,fun j hj=>by
    rcases Nat.lt_succ_iff_lt_or_eq.1 hj with h1|rfl
    ·exact h j h1
    ·exact hb⟩⟩
theorem firstNo_all {bs:Nat->Bool} {n:Nat} {r:Int} (h:firstNo bs n r):(!decide (r>=0))=(List.range n).all bs:=by
 rcases h with ⟨k,rfl,h1,h2,h3⟩|⟨rfl,h⟩
 ·have e:(List.range n).all bs=false:=by
   rw[List.all_eq_false]
   exact⟨k,List.mem_range.2 h1,by simp[h2]⟩
  rw[e];simp
 ·have e:(List.range n).all bs=true:=by
   rw[List.all_eq_true]
   exact fun j hj=>h j (List.mem_range.1 hj)
  rw[e];simp
end Go.Burg
namespace Go.Proofs.YtgdmfledhhoedaaGreatDoor.O
set_option maxRecDepth 8000
open Go.ChangeShapes Go.WideShapes Go.ChangeAt Go.RowKit Go.Burg
variable {nv:Value}
theorem all1_at {f:Nat} {b:Bool} (w:World) (eg:∀ args w,(callFunc f args).run Tryz.prog w=.ok (.enter f args) w) (h:Calls Tryz.prog f #[nv] w fun e w'=>e=.returned (.bool b)/\Below w.heap.size w w') :
 Calls Tryz.prog 127 #[.func (.func f) #[nv] #[]] w fun e w'=>e=.returned (.bool (!b))/\Below w.heap.size w w':=by
 have H:=hid h
 clear h
 go_enter Tryz.func127,Tryz.ntmps127
 go_wp2_with fail
 refine H.out.mono ?_
 rintro e w' ⟨rfl,hb⟩
 have HB:=hid hb
 clear hb
 go_wp2
 go_ret
 exact⟨rfl,HB.out⟩
variable {cp g n:Nat}
set_option maxHeartbeats 2000000 in
theorem fIdx_at {fs:List Nat} {bs:Nat->Bool} {r:Int} (w:World) (hn:fs.length=n) (hm:n<=100) (hT:Tests Tryz.prog w nv fs bs) (hg:RowIn 46 w g (testsL nv fs)) (hr:firstNo bs n r) :
 Calls Tryz.prog 133 #[.slice (some ⟨g,0,none⟩) n cp,.func (.func 127) #[] #[]] w fun e w'=>e=.returned (.int .i64 r)/\Below w.heap.size w w':=by
 have HT:=hid hT
 have HG:=hid hg
 have HR:=hid hr
 have HN:=hid hn
 have hgl:=hg.lt
 clear hT hg hr hn
 go_enter Tryz.func133,Tryz.ntmps133
 go_wp2_with fail
 go_loopw [8] (fun iv wr=>∃ k:Nat,k<=n/\iv=.int .i64 k/\(∀ j,j<k->bs j=true)/\Below w.heap.size w wr) (fun iv _=>n - (intOf iv).toNat)
 case atStart=>exact⟨0,Nat.zero_le _,rfl,fun j hj=>absurd hj (Nat.not_lt_zero _),Below.refl _ _⟩
 case round =>
  obtain⟨k,hk,rfl,hall,hB⟩:=hrel
  by_cases hlt:k<n
  ·have hf:fs[k]?=some (fs[k]'(by have:=HN.out;omega)):=List.getElem?_eq_getElem _
   generalize fs[k]'(by have:=HN.out;omega)=f at hf
   have c0:wr.cell? ⟨g,k,none⟩=some (.func (.func f) #[nv] #[]):=(HG.out.same (hB.block g hgl)).cell (by simp[testsL,hf])
   obtain⟨e1,e2⟩:=HT.out.t k f hf
   have HC:=hid (all1_at wr e1 (e2 wr hB))
   have HB:=hid hB
   have HALL:=hid hall
   have hd:decide (n<=k)=false:=by simp;omega
   clear hf e1 e2 hB hall
   cases hb:bs k
   ·rw[hb] at HC
    go_wp2_with (go_at_call 127;refine HC.out.mono ?_;rintro e w2 ⟨rfl,hB2⟩;have HB2:=hid hB2;clear hB2)
    go_ret
    refine⟨?_,z0d HB.out HB2.out HB.out.size⟩
    rcases HR.out with ⟨k',rfl,h1,h2,h3⟩|⟨rfl,h⟩
    ·obtain rfl:k'=k:=by
      rcases Nat.lt_trichotomy k' k with h|rfl|h
      ·have:=HALL.out k' h;rw[h2] at this;cases this
      ·rfl
      ·have:=h3 k h;rw[hb] at this;cases this
     rfl
    ·have:=h k hlt;rw[hb] at this;cases this
   ·rw[hb] at HC
    go_wp2_with (go_at_call 127;refine HC.out.mono ?_;rintro e w2 ⟨rfl,hB2⟩;have HB2:=hid hB2;clear hB2)
    go_roundw
    case rel=>exact⟨k+1,by omega,by go_num,fun j hj=>by
     rcases Nat.lt_succ_iff_lt_or_eq.1 hj with h1|rfl
     ·exact HALL.out j h1
     ·exact hb,z0d HB.out HB2.out HB.out.size⟩
    case measure=>simp[intOf];omega
  ·obtain rfl:k=n:=by omega
   go_wp2_with fail
   go_ret
   refine⟨?_,hB⟩
   rcases HR.out with ⟨k',rfl,h1,h2,h3⟩|⟨rfl,h⟩
   ·have:=hall k' h1;rw[h2] at this;cases this
   ·rfl
theorem all_at {fs:List Nat} {bs:Nat->Bool} (w:World) (hn:fs.length=n) (hm:n<=100) (hT:Tests Tryz.prog w nv fs bs) (hg:RowIn 46 w g (testsL nv fs)) :
 Calls Tryz.prog 116 #[.slice (some ⟨g,0,none⟩) n cp] w fun e w'=>e=.returned (.bool ((List.range n).all bs))/\Below w.heap.size w w':=by
 obtain⟨r,hr⟩:=firstNo_ex bs n
 have HI:=hid (fIdx_at (cp:=cp) w hn hm hT hg hr)
 have HC:Hid (Calls Tryz.prog 126 #[.slice (some ⟨g,0,none⟩) n cp,.func (.func 127) #[] #[]] w fun e w'=>e=.returned (.bool (decide (r>=0)))/\Below w.heap.size w w'):=hid (by
  clear hT hg hr
  go_enter Tryz.func126,Tryz.ntmps126
  go_wp2_with (go_at_call 133;refine HI.out.mono ?_;rintro e w2 ⟨rfl,hB2⟩;have HB2:=hid hB2;clear hB2)
  go_ret
  exact⟨rfl,HB2.out⟩)
 rw[<- firstNo_all hr]
 clear hT hg hr HI
 go_enter Tryz.func116,Tryz.ntmps116
 go_wp2_with (go_at_call 126;refine HC.out.mono ?_;rintro e w2 ⟨rfl,hB2⟩;have HB2:=hid hB2;clear hB2)
 go_ret
 exact⟨rfl,HB2.out⟩
theorem of_at (n:Nat) (w:World) (h:RoomsAt w) (hn:n<=100000):Calls Tryz.prog 105 #[.int .i64 n] w fun e w'=>e=.returned (.tuple #[.int .i64 (kindOf n),.bool (decide (n<=256))])/\w=w':=by
 have H:=hid h
 clear h
 go_enter Tryz.func105,Tryz.ntmps105
 go_wp2_with fail
 go_loopw [4] (fun iv wr=>∃ k:Nat,2<=k/\k<=6/\iv=.int .i64 k/\(∀ j,2<=j->j<k->z0v j<n)/\wr=w) (fun iv _=>6 - (intOf iv).toNat)
 case atStart=>exact⟨2,by omega,by omega,rfl,fun j h1 h2=>by omega,rfl⟩
 case round =>
  obtain⟨k,h2,h6,rfl,hall,rfl⟩:=hrel
  have HALL:=hid hall
  clear hall
  by_cases hk:k=6
  ·subst hk
   go_wp2_with fail
   go_ret2
   have a5:=HALL.out 5 (by omega) (by omega)
   have:256<n:=a5
   refine⟨?_,rfl⟩
   have e1:kindOf n=0:=by unfold kindOf;rw[if_neg (by omega),if_neg (by omega),if_neg (by omega),if_neg (by omega)]
   have e2:decide (n<=256)=false:=by simp;omega
   rw[e1,e2];rfl
  ·have hR:=hid (room_at k (by omega) wr H.out)
   have hk5:k<=5:=by omega
   by_cases hle:n<=z0v k
   ·have hd:decide ((n:Int)<=z0v k)=true:=by simp;exact hle
    go_wp2_with (go_at_call 77;refine hR.out.mono ?_;rintro e w2 ⟨rfl,rfl⟩)
    go_ret2
    refine⟨?_,rfl⟩
    have e1:kindOf n=k:=by
     have h:=HALL.out
     unfold kindOf
     rcases (by omega:k=2\/k=3\/k=4\/k=5) with rfl|rfl|rfl|rfl
     ·have:n<=4:=hle
      simp[this]
     ·have a:4<n:=h 2 (by omega) (by omega)
      have:n<=16:=hle
      rw[if_neg (by omega),if_pos this]
     ·have a:16<n:=h 3 (by omega) (by omega)
      have:n<=48:=hle
      rw[if_neg (by omega),if_neg (by omega),if_pos this]
     ·have a:48<n:=h 4 (by omega) (by omega)
      have:n<=256:=hle
      rw[if_neg (by omega),if_neg (by omega),if_neg (by omega),if_pos this]
    have e2:decide (n<=256)=true:=by
     have:z0v k<=256:=by rcases (by omega:k=2\/k=3\/k=4\/k=5) with rfl|rfl|rfl|rfl<;>decide
     simp;omega
    rw[e1,e2];rfl
   ·have hd:decide ((n:Int)<=z0v k)=false:=by simp;omega
    go_wp2_with (go_at_call 77;refine hR.out.mono ?_;rintro e w2 ⟨rfl,rfl⟩)
    go_roundw
    case rel=>exact⟨k+1,by omega,by omega,by go_num,fun j h1 h3=>by
     rcases Nat.lt_succ_iff_lt_or_eq.1 h3 with h|rfl
     ·exact HALL.out j h1 h
     ·omega,by first|rfl|trivial⟩
    case measure=>simp[intOf];omega
theorem kid_at (s g:Int) (w:World) (h1:0<=s/\s<4096) (h2:1<=g):Calls Tryz.prog 74 #[.agg #[.int .i64 s,.int .u32 g]] w fun e w'=>e=.returned (.bool true)/\Below w.heap.size w w':=by
 have d1:decide (s>=0)=true:=by simp;exact h1.1
 have d2:decide (s<4096)=true:=by simp;exact h1.2
 have d3:decide (g>=1)=true:=by simp;exact h2
 go_enter Tryz.func74,Tryz.ntmps74
 go_wp2
 go_ret
 exact⟨by first|rfl|simp[*],by first|exact Below.refl _ _|(with_reducible refine Below.alloc ?_ (by first|exact Nat.le_refl _|(simp;done)|(simp;omega)) _;first|exact Below.refl _ _|assumption)⟩
section
variable {k:Nat} {cd vl pt:ByteArray} {ya za:Option Addr} {yn yc zn zc:Nat}
theorem inner_at (w:World) (h:RoomsAt w) (hk:k<=5):Calls Tryz.prog 128 #[.agg #[.int .i64 k,.string cd,.string vl,.string pt,.slice ya yn yc,.slice za zn zc]] w fun e w'=>e=.returned (.bool (decide (0<z0v k)))/\Below w.heap.size w w':=by
 have HR:=hid (room_at k hk _ (h.alloc (.cells #[.int .i64 k,.string cd,.string vl,.string pt,.slice ya yn yc,.slice za zn zc] 165 (0,0))))
 clear h
 go_enter Tryz.func128,Tryz.ntmps128
 go_wp2_with (go_at_call 77;refine HR.out.mono ?_;rintro e w2 ⟨rfl,rfl⟩)
 go_ret
 exact⟨by first|rfl|simp,by first|exact Below.refl _ _|(with_reducible refine Below.alloc ?_ (by first|exact Nat.le_refl _|(simp;done)|(simp;omega)) _;first|exact Below.refl _ _|assumption)⟩
theorem bare_at (w:World) (hp:pt.size<=34):Calls Tryz.prog 129 #[.agg #[.int .i64 k,.string ⟨#[]⟩,.string ⟨#[]⟩,.string pt,.slice ya yn yc,.slice za zn zc]] w fun e w'=>e=.returned (.bool true)/\Below w.heap.size w w':=by
 have d1:decide ((pt.size:Int)<=34)=true:=by simp;omega
 go_enter Tryz.func129,Tryz.ntmps129
 go_wp2
 go_ret
 exact⟨by first|rfl|simp[*],by first|exact Below.refl _ _|(with_reducible refine Below.alloc ?_ (by first|exact Nat.le_refl _|(simp;done)|(simp;omega)) _;first|exact Below.refl _ _|assumption)⟩
theorem paired_at (w:World) (hy:yn=zn) (hz:zn<=256):Calls Tryz.prog 130 #[.agg #[.int .i64 k,.string cd,.string vl,.string pt,.slice ya yn yc,.slice za zn zc]] w fun e w'=>e=.returned (.bool true)/\Below w.heap.size w w':=by
 subst hy
 have d1:decide ((yn:Int)<=256)=true:=by simp;omega
 go_enter Tryz.func130,Tryz.ntmps130
 go_wp2
 go_ret
 exact⟨by first|rfl|simp[*],by first|exact Below.refl _ _|(with_reducible refine Below.alloc ?_ (by first|exact Nat.le_refl _|(simp;done)|(simp;omega)) _;first|exact Below.refl _ _|assumption)⟩
theorem many_at (w:World):Calls Tryz.prog 118 #[.agg #[.int .i64 k,.string cd,.string vl,.string pt,.slice ya yn yc,.slice za zn zc]] w fun e w'=>e=.returned (.bool (decide (1<zn)))/\Below w.heap.size w w':=by
 go_enter Tryz.func118,Tryz.ntmps118
 go_wp2
 go_ret
 exact⟨by first|rfl|(simp;omega),by first|exact Below.refl _ _|(with_reducible refine Below.alloc ?_ (by first|exact Nat.le_refl _|(simp;done)|(simp;omega)) _;first|exact Below.refl _ _|assumption)⟩
theorem fits_at (w:World) (h:RoomsAt w) (hz:zn<=100000):Calls Tryz.prog 119 #[.agg #[.int .i64 k,.string cd,.string vl,.string pt,.slice ya yn yc,.slice za zn zc]] w fun e w'=>e=.returned (.bool (decide (kindOf zn=k)))/\Below w.heap.size w w':=by
 have HR:=hid (of_at zn _ (h.alloc (.cells #[.int .i64 k,.string cd,.string vl,.string pt,.slice ya yn yc,.slice za zn zc] 165 (0,0))) hz)
 clear h
 go_enter Tryz.func119,Tryz.ntmps119
 go_wp2_with (go_at_call 105;refine HR.out.mono ?_;rintro e w2 ⟨rfl,rfl⟩)
 go_ret
 refine⟨?_,by first|exact Below.refl _ _|(with_reducible refine Below.alloc ?_ (by first|exact Nat.le_refl _|(simp;done)|(simp;omega)) _;first|exact Below.refl _ _|assumption)⟩
 have e:((kindOf zn:Int) == (k:Int))=decide (kindOf zn=k):=by
  by_cases h:kindOf zn=k
  ·simp[h]
  ·have:¬ ((kindOf zn:Int)=(k:Int)):=by omega
   simp[h,this]
 rw[<- e]
 rfl
theorem top_at (w:World) (hk:k=5) (hp:pt=⟨#[]⟩):Calls Tryz.prog 120 #[.agg #[.int .i64 k,.string cd,.string vl,.string pt,.slice ya yn yc,.slice za zn zc]] w fun e w'=>e=.returned (.bool true)/\Below w.heap.size w w':=by
 subst hk hp
 go_enter Tryz.func120,Tryz.ntmps120
 go_wp2
 go_ret
 exact⟨by first|rfl|simp[*],by first|exact Below.refl _ _|(with_reducible refine Below.alloc ?_ (by first|exact Nat.le_refl _|(simp;done)|(simp;omega)) _;first|exact Below.refl _ _|assumption)⟩
end
end Go.Proofs.YtgdmfledhhoedaaGreatDoor.O
