/- Walks: a Builder that is written to. -/
import Derived.Test.YtclbmlmlhiiaeaaGreatDoorQN0
import Derived.Shelf.Strings.BuilderK
namespace Go.Proofs.YtclbmlmlhiiaeaaGreatDoor
open Go.RowKit
theorem ptr217:Tryz.prog.underlying 217=some (.pointer 219):=by kernel_rfl
theorem ptr230:Tryz.prog.underlying 230=some .unsafePointer:=by kernel_rfl
theorem size219:(Tryz.prog.info? 219).map (·.size)=some 2:=by kernel_rfl
theorem lies219:liesAt Tryz.prog Tryz.prog.depth 219 (2 / Tryz.prog.cellsOf 219) 0 219 1=true:=by kernel_rfl
set_option maxRecDepth 100000 in
set_option maxHeartbeats 2000000 in
theorem copyCheck_any(B b:Nat)(bs:List Value)(w:World)(h:Lib.IsBuilderF 219 5 B b bs w) :
  Calls Tryz.prog 156 #[.pointer (some ⟨b,0,none⟩)] w fun e w'=>e = .returned (.tuple #[])∧(Lib.BuilderAtF 219 5 B b (.pointer (some ⟨b,0,none⟩)) bs w'∧Below B w w'∧Lib.OthersKept 5 (some b) w w'):=by
 obtain⟨j,hj,hjs⟩:=Option.map_eq_some_iff.1 size219;rcases h with h | h
 ·have c0:=h.cell0
  have f0:=h.frozen0;have hsh:=h.shape;have H:=Lib.hid h;clear h;go_enter Tryz.func156,Tryz.ntmps156;go_wp2_with fail;rw [Lib.run_to_unsafe w ⟨b,0,none⟩ ptr217 ptr230 hj (by rw [hjs]; decide) hsh (Nat.zero_lt_succ 1)];simp only [Result.andThen];rw [Oper.upon_value];go_wp2_with fail;rw [run_callFunc_extern Tryz.func160 (by kernel_rfl) (by kernel_rfl) (by kernel_rfl) (e:=Extern.AbiNoEscape.same) (by kernel_rfl)];rw [Lib.run_noEscape];simp only [Result.andThen];rw [Oper.upon_value];go_wp2_with fail;rw [Lib.run_from_unsafe w ⟨b,0,none⟩ ptr230 ptr217 hj hsh lies219];simp only [Result.andThen];rw [Oper.upon_value];go_wp2_with fail
  go_end0
  exact⟨rfl,H.out.used _,(Below.refl B w).setCell (p:=⟨b,0,none⟩) H.out.1 _,(Lib.OthersKept.refl _ _ w).setCell ⟨b,0,none⟩ rfl _⟩
 ·have c0:=h.cell0
  have H:=Lib.hid h;clear h;go_enter Tryz.func156,Tryz.ntmps156;go_wp2_with fail;rw [Lib.run_neq_ptr_same w _ ptr217 hj];go_wp2_with fail
  go_end0
  exact⟨rfl,H.out,Below.refl B _,Lib.OthersKept.refl _ _ _⟩
theorem infoB:(Tryz.prog.info? 5).map (fun i=>(i.zero,i.size,i.bytes))=some (some (.int .u8 0),1,1):=by kernel_rfl
theorem string9:Tryz.prog.underlying 9=some .string:=by kernel_rfl
def WritePost(B b:Nat)(bs:List Value)(s:ByteArray)(w:World)(e:Ending)(w':World):Prop :=
 e = .returned (.tuple #[.int .i64 s.size,.nilIface])∧Lib.IsBuilderF 219 5 B b (bs++Lib.strCells s) w'∧Below B w w'∧Lib.OthersKept 5 (some b) w w'
set_option maxRecDepth 100000 in
set_option maxHeartbeats 2000000 in
theorem writeString_any(B b:Nat)(bs:List Value)(s:ByteArray)(w:World)(h:Lib.IsBuilderF 219 5 B b bs w)(hlen:bs.length+s.size≤140737488355328)(hBw:B≤w.heap.size) :
  Calls Tryz.prog 147 #[.pointer (some ⟨b,0,none⟩),.string s] w (WritePost B b bs s w):=by
 obtain⟨i0,hi,hz0,hz1,hz2⟩:=info_parts infoB;have H:=Lib.hid h;clear h;go_enter Tryz.func147,Tryz.ntmps147;go_wp2_with (go_at_call 156; refine(copyCheck_any B b bs _ H.out).mono ?_);rintro e w1 ⟨rfl,h1,hb1,hk1⟩;obtain⟨hB,v,hbk,hown,hne⟩:=h1;have c0:w1.cell? ⟨b,0,none⟩=some (.pointer (some ⟨b,0,none⟩)):=by rw [Lib.cell_of_heap hbk]; rfl
 have c1:w1.cell? ⟨b,1,none⟩=some v:=by rw [Lib.cell_of_heap hbk]; rfl
 have HBK:=Lib.hid hbk;clear hbk;go_wp2_with (at_builtin; refine Lib.wpList_append_own_stringF _ rfl _ _ 46 9 rfl B 5 i0 elem5.slice string9 hi hz0 hz1 hz2 _ _ _ rfl hown s rfl ?c3 ?c4 ?c5 ?_)
 case c3=>unfold maxLen; omega
 case c4=>omega
 case c5=>have:=hb1.size; omega
 intro v' w2 hown' hgrow _
 have hlt:b<w1.heap.size:=by
  rcases Nat.lt_or_ge b w1.heap.size with h' | h'
  ·exact h'
  ·have:=HBK.out
   simp [Array.getElem?_eq_none h'] at this
 have hb2:w2.heap[b]? = some (.cells #[.pointer (some ⟨b,0,none⟩),v] 219 (0,0)):=by
  rw [hgrow.block b hlt (fun e=>hne e.symm)];exact HBK.out
 have d0:w2.cell? ⟨b,0,none⟩=some (.pointer (some ⟨b,0,none⟩)):=by rw [Lib.cell_of_heap hb2]; rfl
 have d1:w2.cell? ⟨b,1,none⟩=some v:=by rw [Lib.cell_of_heap hb2]; rfl
 have f1:w2.frozen? ⟨b,1,none⟩=false:=Lib.frozen_of_heap hb2 1
 obtain⟨ao,n',cap,rfl⟩:∃ ao n' cap,v' = .slice ao n' cap:=by
  rcases hown'.2 with ⟨hv,_⟩ | ⟨g,cap,cur,fz,hv,_⟩
  ·exact⟨_,_,_,hv⟩
  ·exact⟨_,_,_,hv⟩
 have K1:=Lib.hid (Lib.BuilderAtF.put (T:=219) (e:=5) hB hb2 (bs':=bs++Lib.strCells s) (by simpa [Lib.strCells_length] using hown') (by decide));have K2:=Lib.hid ((hb1.grown hgrow (by have:=hb1.size; omega) (fun k hk=>(hown.lt k hk).1)).setCell (p:=⟨b,1,none⟩) hB (.slice ao n' cap));have K3:=Lib.hid ((hk1.grown hgrow (Lib.ownsRowF_kind hown)).setCell ⟨b,1,none⟩ rfl (.slice ao n' cap));clear hb2 hgrow hown' hown hb1 hk1 hz0 hz1 hz2 hi;go_wp2_with fail
 go_ret2
 exact⟨rfl,.inr K1.out,K2.out,K3.out⟩
end Go.Proofs.YtclbmlmlhiiaeaaGreatDoor
