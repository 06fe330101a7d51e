/- Whether both homes are the same. -/
import Derived.Test.YtcigheahollkcaaQhA
import Derived.Test.YtcigheahollkcaaHoA
namespace Go.Proofs.Ytcigheahollkcaa
open Go Go.RowKit
set_option linter.unusedVariables false
set_option linter.unusedSimpArgs false
def sameRowS (a : RowS) (b : RowS) : Option (Bool) :=
 (bif decide (a.state = b.state) then (bif decide (a.head = b.head) then (ksameS a.data b.data).bind fun y1_17 => some y1_17 else some false) else some false)
noncomputable def C45 (p : List Nat) : Code := codeAt (bodyOf Try.f45) p
set_option maxRecDepth 100000 in
set_option maxHeartbeats 8000000 in
theorem SameRowF_tr {W0 : World} {Γ : List Asn} (aa : Option Addr) (acap : Nat) (a : RowS) (ba : Option Addr) (bcap : Nat) (b : RowS) (hraa : Reads W0 Γ aa (ints a.data)) (hrba : Reads W0 Γ ba (ints b.data)) (y : Bool) (H : sameRowS a b = some y) : Tr Try.prog 45 #[.agg #[iv a.state, iv a.head, .slice aa (List.length a.data) acap], .agg #[iv b.state, iv b.head, .slice ba (List.length b.data) bcap]] W0 (Γ) (fun r Δ => r = .bool y ∧ Δ = Γ) := by
 unfold sameRowS at H
 refine Tr.enter (fn := Try.f45) (c := C45 []) (args := [.agg #[iv a.state, iv a.head, .slice aa (List.length a.data) acap], .agg #[iv b.state, iv b.head, .slice ba (List.length b.data) bcap]]) 24 Try.func45 kf kf ?_
 refine ae [(0, .agg #[iv a.state, iv a.head, .slice aa (List.length a.data) acap]), (1, .agg #[iv b.state, iv b.head, .slice ba (List.length b.data) bcap])] ?_
 refine aq (x := C45 [0]) (y := C45 [1]) ?_
 refine ar (id := 0) 3 ?_
 refine s_step 2 kf kf (st_new (T := 92) (cells := #[iv a.state, iv a.head, .slice aa (List.length a.data) acap]) (fun a => .pointer (some a)) (fun _ => kf)) ?_
 rintro _ _ ⟨b0_0, rfl, rfl⟩
 refine s_step 3 kf kf (st_new (T := 82) (cells := #[iv b.state, iv b.head, .slice ba (List.length b.data) bcap]) (fun a => .pointer (some a)) (fun _ => kf)) ?_
 rintro _ _ ⟨b0_1, rfl, rfl⟩
 refine sp 4 (.bool false) ?_
 refine ops_end ?_
 refine ae [(2, .pointer (some ⟨b0_0, 0, none⟩)), (3, .pointer (some ⟨b0_1, 0, none⟩))] ?_
 refine at_then_normal ?_
 refine aq (x := C45 [1,0]) (y := C45 [1,1]) ?_
 refine ar (id := 1) 20 ?_
 refine sp 5 (.pointer (some ⟨b0_0, 0, none⟩)) ?_
 refine sl 6 (iv a.state) (load1 (off := 0) (fun _ => kf) (holds_own (.there .here)) kf) ?_
 refine sp 7 (.pointer (some ⟨b0_1, 0, none⟩)) ?_
 refine sl 8 (iv b.state) (load1 (off := 0) (fun _ => kf) (holds_own .here) kf) ?_
 refine sp 9 (.bool (decide (a.state = b.state))) ?_
 rcases Bool.eq_false_or_eq_true (decide (a.state = b.state)) with h1 | h1
 ·replace H := bifT H h1
  refine sr 10 (.bool true) (run_eq (v := .bool (decide (a.state = b.state))) (fun _ => kf) (congrArg Value.bool h1)) ?_
  refine sp 11 (.pointer (some ⟨b0_0, 1, none⟩)) ?_
  refine sl 12 (iv a.head) (load1 (off := 1) (fun _ => kf) (holds_own (.there .here)) kf) ?_
  refine sp 13 (.pointer (some ⟨b0_1, 1, none⟩)) ?_
  refine sl 14 (iv b.head) (load1 (off := 1) (fun _ => kf) (holds_own .here) kf) ?_
  refine sp 15 (.bool (decide (a.head = b.head))) ?_
  refine sp 16 (.bool (decide (a.head = b.head))) ?_
  rcases Bool.eq_false_or_eq_true (decide (a.head = b.head)) with h2 | h2
  ·replace H := bifT H h2
   refine sr 17 (.bool true) (run_eq (v := .bool (decide (a.head = b.head))) (fun _ => kf) (congrArg Value.bool h2)) ?_
   refine sp 18 (.pointer (some ⟨b0_0, 2, none⟩)) ?_
   refine sl 19 (.slice aa (List.length a.data) acap) (load1 (off := 2) (fun _ => kf) (holds_own (.there .here)) kf) ?_
   refine sp 20 (.pointer (some ⟨b0_1, 2, none⟩)) ?_
   refine sl 21 (.slice ba (List.length b.data) bcap) (load1 (off := 2) (fun _ => kf) (holds_own .here) kf) ?_
   obtain ⟨y1_17, hy1_17, H⟩ := bindE H
   refine s_call 22 24 #[.slice aa (List.length a.data) acap, .slice ba (List.length b.data) bcap] kf kf (fun _ => kf) (KSameF_tr aa acap a.data ba bcap b.data (Reads.conv (fun w hw => hw.less (.drop .here (.drop .here .refl))) hraa) (Reads.conv (fun w hw => hw.less (.drop .here (.drop .here .refl))) hrba) y1_17 hy1_17) ?_
   rintro _ _ ⟨rfl, rfl⟩
   refine sp 23 (.bool y1_17) ?_
   refine sp 4 (.bool y1_17) ?_
   refine ops_end ?_
   refine ae [(4, .bool y1_17)] ?_
   refine at_then_normal ?_
   refine at_ret kf ?_
   obtain rfl := someE H
   refine at_backR [.bool y1_17] (Γ) (rs := [.tmp 4]) kf (.cons (.tmp kf) .nil) (fun w hw => (Sat.less (.drop .here (.drop .here .refl)) hw)) ?_
   exact ⟨rfl, rfl⟩
  ·replace H := bifF H h2
   refine sr 17 (.bool false) (run_eq (v := .bool (decide (a.head = b.head))) (fun _ => kf) (congrArg Value.bool h2)) ?_
   refine sa 18 ?_
   refine sa 19 ?_
   refine sa 20 ?_
   refine sa 21 ?_
   refine sa 22 ?_
   refine sp 23 (.bool false) ?_
   refine sp 4 (.bool false) ?_
   refine ops_end ?_
   refine ae [(4, .bool false)] ?_
   refine at_then_normal ?_
   refine at_ret kf ?_
   obtain rfl := someE H
   refine at_backR [.bool false] (Γ) (rs := [.tmp 4]) kf (.cons (.tmp kf) .nil) (fun w hw => (Sat.less (.drop .here (.drop .here .refl)) hw)) ?_
   exact ⟨rfl, rfl⟩
 ·replace H := bifF H h1
  refine sr 10 (.bool false) (run_eq (v := .bool (decide (a.state = b.state))) (fun _ => kf) (congrArg Value.bool h1)) ?_
  refine sa 11 ?_
  refine sa 12 ?_
  refine sa 13 ?_
  refine sa 14 ?_
  refine sa 15 ?_
  refine sp 16 (.bool false) ?_
  refine sp 17 (.bool false) ?_
  refine sa 18 ?_
  refine sa 19 ?_
  refine sa 20 ?_
  refine sa 21 ?_
  refine sa 22 ?_
  refine sp 23 (.bool false) ?_
  refine sp 4 (.bool false) ?_
  refine ops_end ?_
  refine ae [(4, .bool false)] ?_
  refine at_then_normal ?_
  refine at_ret kf ?_
  obtain rfl := someE H
  refine at_backR [.bool false] (Γ) (rs := [.tmp 4]) kf (.cons (.tmp kf) .nil) (fun w hw => (Sat.less (.drop .here (.drop .here .refl)) hw)) ?_
  exact ⟨rfl, rfl⟩
def same11S_j1 (qc : HomesS) (v0_5 : Int) (hc : HomeS) (r0 : Int → Option (Bool)) : Option (Bool) :=
 (shereS qc v0_5).bind fun y9_2 => (bif y9_2 then (townerS hc.turns v0_5).bind fun y9_9 => (qownerS qc v0_5).bind fun y9_14 => (bif !(decide (y9_9 = y9_14)) then some false else (twaitingS hc.turns v0_5).bind fun y9_22 => (qwaitingS qc v0_5).bind fun y9_27 => (bif !(decide (y9_22 = y9_27)) then some false else chk (inR (v0_5 + (1 : Int))) (r0 (v0_5 + (1 : Int))))) else chk (inR (v0_5 + (1 : Int))) (r0 (v0_5 + (1 : Int))))
def same11S_k0 (e0_5 : Int) : Option (Bool) :=
 some true
def same11S_l0 (qc : HomesS) (hc : HomeS) (k0 : Int → Option (Bool)) : Nat → Int → Option (Bool)
 | 0 => fun _ => none
 | m + 1 => fun v0_5 => (bif decide (v0_5 ≤ qc.c.lines) then (mrowS hc.dir v0_5).bind fun y6_5 => (shereS qc v0_5).bind fun y7_3 => (bif !(y6_5.2 == y7_3) then some false else (bif y6_5.2 then chk (0 ≤ v0_5 ∧ v0_5 < ((List.length qc.r : Nat) : Int)) (letP (nthT qc.r v0_5) fun x7_15 => (sameRowS y6_5.1 x7_15).bind fun y7_16 => (bif !y7_16 then some false else same11S_j1 qc v0_5 hc (same11S_l0 qc hc k0 m))) else same11S_j1 qc v0_5 hc (same11S_l0 qc hc k0 m))) else k0 v0_5)
def same11S (hc : HomeS) (qc : HomesS) : Option (Bool) :=
 (hpendingS hc).bind fun y1_4 => (qreadyS qc).bind fun y1_8 => (bif !(y1_4 == (decide ((0 : Int) < (((List.length y1_8) : Nat) : Int)))) then some false else same11S_l0 qc hc (same11S_k0 ) 64 (-1))
noncomputable def C23 (p : List Nat) : Code := codeAt (bodyOf Try.f23) p
set_option maxRecDepth 100000 in
set_option maxHeartbeats 8000000 in
theorem Same11F_tr {W0 : World} {Γ : List Asn} (h : Nat) (hc : HomeS) (q : Nat) (qx : HomesXP) (qc : HomesS)  (y : Bool) (H : same11S hc qc = some y) : Tr Try.prog 23 #[.pointer (some ⟨h, 0, none⟩), .pointer (some ⟨q, 0, none⟩)] W0 ((HomeA h hc) :: (HomesXA q qx qc) :: Γ) (fun r Δ => r = .bool y ∧ Δ = (HomeA h hc) :: (HomesXA q qx qc) :: Γ) := by
 unfold same11S at H
 refine Tr.enter (fn := Try.f23) (c := C23 []) (args := [.pointer (some ⟨h, 0, none⟩), .pointer (some ⟨q, 0, none⟩)]) 90 Try.func23 kf kf ?_
 refine ae [(0, .pointer (some ⟨h, 0, none⟩)), (1, .pointer (some ⟨q, 0, none⟩))] ?_
 refine aq (x := C23 [0]) (y := C23 [1]) ?_
 refine ar (id := 0) 1 ?_
 refine sp 4 (.bool false) ?_
 refine ops_end ?_
 refine ae [(0, .pointer (some ⟨h, 0, none⟩)), (1, .pointer (some ⟨q, 0, none⟩))] ?_
 refine at_then_normal ?_
 refine aq (x := C23 [1,0]) (y := C23 [1,1]) ?_
 refine aq (x := C23 [1,0,0]) (y := C23 [1,0,1]) ?_
 refine at_region_draw (id := 1) kf kf ?_
 refine dp 0 8 (.pointer (some ⟨h, 0, none⟩)) ?_
 refine dp 1 9 (.bool false) ?_
 refine dp 2 10 (.bool false) ?_
 refine dp 3 11 (.pointer (some ⟨h, 0, none⟩)) ?_
 refine dp 5 13 (.pointer (some ⟨q, 0, none⟩)) ?_
 refine dp 6 14 (.pointer (some ⟨q, 0, none⟩)) ?_
 refine dp 7 15 (.pointer (some ⟨q, 10, none⟩)) ?_
 obtain ⟨y1_4, hy1_4, H⟩ := bindE H
 refine d_call 4 12 [3, 2, 1, 0] [7, 6, 5] [] 13 #[.pointer (some ⟨h, 0, none⟩)] kf kf kf (fun _ => kf) (HPendingF_tr h hc y1_4 hy1_4) ?_
 rintro _ _ ⟨rfl, rfl⟩
 refine ⟨stable_nil, ?_⟩
 obtain ⟨y1_8, hy1_8, H⟩ := bindE H
 refine d_call 8 16 [7, 4, 2, 6, 3, 1, 5, 0] [] [] 35 #[.pointer (some ⟨q, 10, none⟩)] kf kf kf (fun _ => kf) (Tr.conv (Γ' := (HomesXA q qx qc) :: (HomeA h hc) :: Γ) (fun w hw => (Sat.less (.take (.there .here) (.take .here .refl)) hw)) (QReadyF_tr q qx qc y1_8 hy1_8)) ?_
 rintro _ _ ⟨a1_8_00, c1_8_00, rfl, rfl⟩
 refine ⟨stable_nil, ?_⟩
 refine dp 9 17 (iv (((List.length y1_8) : Nat) : Int)) ?_
 refine dp 10 18 (.bool (decide ((0 : Int) < (((List.length y1_8) : Nat) : Int)))) ?_
 refine dp 11 19 (.bool (!(y1_4 == (decide ((0 : Int) < (((List.length y1_8) : Nat) : Int)))))) ?_
 refine dp 12 20 (.bool (!(y1_4 == (decide ((0 : Int) < (((List.length y1_8) : Nat) : Int)))))) ?_
 refine draw_end kf ?_
 refine ae [(0, .pointer (some ⟨h, 0, none⟩)), (1, .pointer (some ⟨q, 0, none⟩)), (20, .bool (!(y1_4 == (decide ((0 : Int) < (((List.length y1_8) : Nat) : Int))))))] ?_
 refine at_then_normal ?_
 rcases Bool.eq_false_or_eq_true (!(y1_4 == (decide ((0 : Int) < (((List.length y1_8) : Nat) : Int))))) with h1 | h1
 ·replace H := bifT H h1
  refine at_true (t := !(y1_4 == (decide ((0 : Int) < (((List.length y1_8) : Nat) : Int))))) (x := C23 [1,0,1,0]) (y := C23 [1,0,1,1]) (o := .tmp 20) kf kf kf h1 ?_
  refine aq (x := C23 [1,0,1,0,0]) (y := C23 [1,0,1,0,1]) ?_
  refine ar (id := 2) 1 ?_
  refine sp 4 (.bool false) ?_
  refine ops_end ?_
  refine ae [(4, .bool false)] ?_
  refine at_then_normal ?_
  refine at_ret kf ?_
  refine at_then_ret ?_
  obtain rfl := someE H
  refine at_backR [.bool false] ((HomeA h hc) :: (HomesXA q qx qc) :: Γ) (rs := [.tmp 4]) kf (.cons (.tmp kf) .nil) (fun w hw => (Sat.less (.take (.there (.there .here)) (.take (.there .here) (.drop .here .refl))) hw)) ?_
  exact ⟨rfl, rfl⟩
 ·replace H := bifF H h1
  refine at_false (t := !(y1_4 == (decide ((0 : Int) < (((List.length y1_8) : Nat) : Int))))) (x := C23 [1,0,1,0]) (y := C23 [1,0,1,1]) (o := .tmp 20) kf kf kf h1 ?_
  refine at_skip kf ?_
  refine at_then_normal ?_
  refine aq (x := C23 [1,1,0]) (y := C23 [1,1,1]) ?_
  refine aq (x := C23 [1,1,0,0]) (y := C23 [1,1,0,1]) ?_
  refine ar (id := 3) 1 ?_
  refine sp 5 (iv (-1)) ?_
  refine ops_end ?_
  refine ae [(0, .pointer (some ⟨h, 0, none⟩)), (1, .pointer (some ⟨q, 0, none⟩)), (5, iv (-1))] ?_
  refine at_then_normal ?_
  refine at_block (i := 0) (x := C23 [1,1,0,1,0]) kf ?_
  refine At.conv (Γ' := (HomesXA q qx qc) :: (HomeA h hc) :: Γ) (fun w hw => (Sat.less (.take (.there .here) (.take (.there .here) (.drop .here .refl))) hw)) ?_
  refine at_loopR (x := C23 [1,1,0,1,0,0]) (fun mm ff ΔΔ => ∃ (fuel : Nat) (v0_5 : Int), same11S_l0 qc hc (same11S_k0 ) fuel v0_5 = some y ∧ fuel = mm ∧ ff = [(0, .pointer (some ⟨h, 0, none⟩)), (1, .pointer (some ⟨q, 0, none⟩)), (5, iv v0_5)] ∧ (HomesXA q qx qc) :: (HomeA h hc) :: Γ = ΔΔ) (64) kf [(0, .pointer (some ⟨h, 0, none⟩)), (1, .pointer (some ⟨q, 0, none⟩)), (5, iv (-1))] ⟨kf, kf, kf, trivial⟩ ⟨64, (-1), H, rfl, rfl, rfl⟩ ?_
  rintro _ _ _ ⟨fuel1, v0_5, H, rfl, rfl, rfl⟩
  rcases fuel1 with _ | fuel1
  ·exact (noneE H).elim
  rw [same11S_l0] at H
  refine aq (x := C23 [1,1,0,1,0,0,0]) (y := C23 [1,1,0,1,0,0,1]) ?_
  refine aq (x := C23 [1,1,0,1,0,0,0,0]) (y := C23 [1,1,0,1,0,0,0,1]) ?_
  refine ar (id := 4) 7 ?_
  refine sp 21 (iv v0_5) ?_
  refine sp 22 (.pointer (some ⟨q, 0, none⟩)) ?_
  refine sp 23 (.pointer (some ⟨q, 0, none⟩)) ?_
  refine sp 24 (.pointer (some ⟨q, 0, none⟩)) ?_
  refine sp 25 (.pointer (some ⟨q, 1, none⟩)) ?_
  refine HomesXA.open .here ?_
  refine sl 26 (iv qc.c.lines) (load1 (off := 1) (fun _ => kf) (holds_own .here) kf) ?_
  refine sp 27 (.bool (decide (v0_5 ≤ qc.c.lines))) ?_
  refine ops_end ?_
  refine ae [(0, .pointer (some ⟨h, 0, none⟩)), (1, .pointer (some ⟨q, 0, none⟩)), (5, iv v0_5), (27, .bool (decide (v0_5 ≤ qc.c.lines)))] ?_
  refine at_then_normal ?_
  rcases Bool.eq_false_or_eq_true (decide (v0_5 ≤ qc.c.lines)) with h2 | h2
  ·replace H := bifT H h2
   refine at_true (t := decide (v0_5 ≤ qc.c.lines)) (x := C23 [1,1,0,1,0,0,0,1,0]) (y := C23 [1,1,0,1,0,0,0,1,1]) (o := .tmp 27) kf kf kf h2 ?_
   refine at_skip kf ?_
   refine at_then_normal ?_
   refine At.conv (Γ' := (HomesXA q qx qc) :: (ImmI qx.a7 qc.c.init) :: (HomeA h hc) :: Γ) (fun w hw => HomesXA.close (x := qx) (t := qc) (Sat.less (.take (.there (.there .here)) (.take .here (.take (.there .here) (.take (.there .here) (.take (.there .here) (.take .here (.take .here .refl))))))) (ImmR.dup (Sat.less (.take (.there .here) (.take .here (.take .here (.take .here (.take .here (.take .here .refl)))))) hw)))) ?_
   refine aq (x := C23 [1,1,0,1,0,0,1,0]) (y := C23 [1,1,0,1,0,0,1,1]) ?_
   refine at_block (i := 1) (x := C23 [1,1,0,1,0,0,1,0,0]) kf ?_
   refine aq (x := C23 [1,1,0,1,0,0,1,0,0,0]) (y := C23 [1,1,0,1,0,0,1,0,0,1]) ?_
   refine ar (id := 6) 12 ?_
   refine sp 31 (.pointer (some ⟨h, 0, none⟩)) ?_
   refine sp 32 (.pointer (some ⟨h, 0, none⟩)) ?_
   refine sp 33 (.pointer (some ⟨h, 0, none⟩)) ?_
   refine HomeA.tox (.there (.there .here)) ?_
   intro x6_3_h
   refine HomeXA.open .here ?_
   refine sl 34 (.pointer (some ⟨x6_3_h.b0, 0, none⟩)) (load1 (off := 0) (fun _ => kf) (holds_own .here) kf) ?_
   refine sp 35 (iv v0_5) ?_
   obtain ⟨y6_5, hy6_5, H⟩ := bindE H
   refine s_call 36 44 #[.pointer (some ⟨x6_3_h.b0, 0, none⟩), iv v0_5] kf kf (fun _ => kf) (Tr.conv (Γ' := (DirA x6_3_h.b0 hc.dir) :: (Asn.own h (.cells #[.pointer (some ⟨x6_3_h.b0, 0, none⟩), .pointer (some ⟨x6_3_h.b1, 0, none⟩), iv hc.c.nodes, iv hc.c.lines, iv hc.c.words, iv hc.c.sets, iv hc.c.ways, iv hc.c.out, iv hc.c.inn, .slice x6_3_h.a9 (List.length hc.c.init) x6_3_h.c9, iv hc.node] x6_3_h.T (0, 0))) :: (TurnsA x6_3_h.b1 hc.turns) :: (ImmI x6_3_h.a9 hc.c.init) :: (HomesXA q qx qc) :: (ImmI qx.a7 qc.c.init) :: Γ) (fun w hw => (Sat.less (.take (.there .here) (.take .here (.take .here (.take .here (.take .here (.take .here .refl)))))) hw)) (MRowF_tr x6_3_h.b0 hc.dir v0_5 y6_5 hy6_5)) ?_
   rintro _ _ ⟨a6_5_00, c6_5_00, rfl, rfl⟩
   refine sp 30 (.tuple #[.agg #[iv y6_5.1.state, iv y6_5.1.head, .slice a6_5_00 (List.length y6_5.1.data) c6_5_00], .bool y6_5.2]) ?_
   refine sp 37 (.agg #[iv y6_5.1.state, iv y6_5.1.head, .slice a6_5_00 (List.length y6_5.1.data) c6_5_00]) ?_
   refine sp 38 (.bool y6_5.2) ?_
   refine s_step 6 kf kf (st_new (T := 92) (cells := #[iv (0), iv (0), .slice none 0 0]) (fun a => .pointer (some a)) (fun _ => kf)) ?_
   rintro _ _ ⟨b6_9, rfl, rfl⟩
   refine s_do kf kf (st_store (off := 0) (vs := [iv y6_5.1.state, iv y6_5.1.head, .slice a6_5_00 (List.length y6_5.1.data) c6_5_00]) (c' := #[iv y6_5.1.state, iv y6_5.1.head, .slice a6_5_00 (List.length y6_5.1.data) c6_5_00]) (fun _ => kf) .here kf kf kf) ?_
   rintro _ _ ⟨rfl, rfl⟩
   refine sp 7 (.bool y6_5.2) ?_
   refine ops_end ?_
   refine ae [(0, .pointer (some ⟨h, 0, none⟩)), (1, .pointer (some ⟨q, 0, none⟩)), (5, iv v0_5), (6, .pointer (some ⟨b6_9, 0, none⟩)), (7, .bool y6_5.2)] ?_
   refine at_then_normal ?_
   refine At.conv (Γ' := (HomeXA h x6_3_h hc) :: (ImmI x6_3_h.a9 hc.c.init) :: (Asn.own b6_9 (.cells #[iv y6_5.1.state, iv y6_5.1.head, .slice a6_5_00 (List.length y6_5.1.data) c6_5_00] 92 (0, 0))) :: (IntsA a6_5_00 c6_5_00 y6_5.1.data) :: (HomesXA q qx qc) :: (ImmI qx.a7 qc.c.init) :: Γ) (fun w hw => HomeXA.close (x := x6_3_h) (t := hc) (Sat.less (.take (.there (.there (.there (.there (.there .here))))) (.take (.there (.there (.there (.there .here)))) (.take (.there (.there (.there (.there .here)))) (.take .here (.take .here (.take .here (.take .here (.take .here (.take .here .refl))))))))) (ImmR.dup (Sat.less (.take (.there (.there (.there (.there (.there .here))))) (.take .here (.take .here (.take .here (.take .here (.take .here (.take .here (.take .here .refl)))))))) hw)))) ?_
   refine At.conv (Γ' := (HomeA h hc) :: (ImmI x6_3_h.a9 hc.c.init) :: (Asn.own b6_9 (.cells #[iv y6_5.1.state, iv y6_5.1.head, .slice a6_5_00 (List.length y6_5.1.data) c6_5_00] 92 (0, 0))) :: (IntsA a6_5_00 c6_5_00 y6_5.1.data) :: (HomesXA q qx qc) :: (ImmI qx.a7 qc.c.init) :: Γ) (fun w hw => HomeXA.shut (hw.pull .here)) ?_
   refine at_seq_join (x := C23 [1,1,0,1,0,0,1,0,0,1,0]) (y := C23 [1,1,0,1,0,0,1,0,0,1,1]) (fun ff ΔΔ => same11S_j1 qc v0_5 hc (same11S_l0 qc hc (same11S_k0 ) fuel1) = some y ∧ ff = [(0, .pointer (some ⟨h, 0, none⟩)), (1, .pointer (some ⟨q, 0, none⟩)), (5, iv v0_5)] ∧ (HomeA h hc) :: (HomesXA q qx qc) :: (ImmI qx.a7 qc.c.init) :: Γ = ΔΔ) kf ?_ ?_
   ·rintro _ _ ⟨H, rfl, rfl⟩
    rw [same11S_j1] at H
    refine aq (x := C23 [1,1,0,1,0,0,1,0,0,1,1,0]) (y := C23 [1,1,0,1,0,0,1,0,0,1,1,1]) ?_
    refine at_region_draw (id := 9) kf kf ?_
    refine dp 0 59 (.pointer (some ⟨q, 0, none⟩)) ?_
    refine dp 1 60 (iv v0_5) ?_
    obtain ⟨y9_2, hy9_2, H⟩ := bindE H
    refine d_call 2 61 [0, 1] [] [] 40 #[.pointer (some ⟨q, 0, none⟩), iv v0_5] kf kf kf (fun _ => kf) (Tr.conv (Γ' := (HomesXA q qx qc) :: (HomeA h hc) :: (ImmI qx.a7 qc.c.init) :: Γ) (fun w hw => (Sat.less (.take (.there .here) (.take .here (.take .here .refl))) hw)) (SHereF_tr q qx qc v0_5 y9_2 hy9_2)) ?_
    rintro _ _ ⟨rfl, rfl⟩
    refine ⟨stable_nil, ?_⟩
    rcases Bool.eq_false_or_eq_true (y9_2) with h3 | h3
    ·replace H := bifT H h3
     refine d_pure 3 62 (.bool true) kf kf kf (run_eq (v := .bool (y9_2)) (fun _ => kf) (congrArg Value.bool h3)) ?_
     refine dp 4 63 (.pointer (some ⟨h, 0, none⟩)) ?_
     refine dp 5 64 (.pointer (some ⟨h, 0, none⟩)) ?_
     refine dp 6 65 (.pointer (some ⟨h, 1, none⟩)) ?_
     refine HomeA.tox_draw (.there .here) ?_
     intro x9_7_h
     refine HomeXA.open_draw .here ?_
     refine dl 7 66 (.pointer (some ⟨x9_7_h.b1, 0, none⟩)) (load1 (off := 1) (fun _ => kf) (holds_own .here) kf) ?_
     refine dp 8 67 (iv v0_5) ?_
     refine dp 10 69 (.pointer (some ⟨q, 0, none⟩)) ?_
     refine dp 11 70 (.pointer (some ⟨q, 0, none⟩)) ?_
     refine dp 12 71 (.pointer (some ⟨q, 10, none⟩)) ?_
     refine dp 13 72 (iv v0_5) ?_
     obtain ⟨y9_9, hy9_9, H⟩ := bindE H
     refine d_call 9 68 [7, 8, 3, 6, 2, 5, 0, 1, 4] [13, 12, 11, 10] [] 11 #[.pointer (some ⟨x9_7_h.b1, 0, none⟩), iv v0_5] kf kf kf (fun _ => kf) (Tr.conv (Γ' := (TurnsA x9_7_h.b1 hc.turns) :: (Asn.own h (.cells #[.pointer (some ⟨x9_7_h.b0, 0, none⟩), .pointer (some ⟨x9_7_h.b1, 0, none⟩), iv hc.c.nodes, iv hc.c.lines, iv hc.c.words, iv hc.c.sets, iv hc.c.ways, iv hc.c.out, iv hc.c.inn, .slice x9_7_h.a9 (List.length hc.c.init) x9_7_h.c9, iv hc.node] x9_7_h.T (0, 0))) :: (DirA x9_7_h.b0 hc.dir) :: (ImmI x9_7_h.a9 hc.c.init) :: (HomesXA q qx qc) :: (ImmI qx.a7 qc.c.init) :: Γ) (fun w hw => (Sat.less (.take (.there (.there .here)) (.take .here (.take .here (.take .here (.take .here (.take .here .refl)))))) hw)) (TOwnerF_tr x9_7_h.b1 hc.turns v0_5 y9_9 hy9_9)) ?_
     rintro _ _ ⟨rfl, rfl⟩
     refine ⟨stable_nil, ?_⟩
     obtain ⟨y9_14, hy9_14, H⟩ := bindE H
     refine d_call 14 73 [12, 13, 9, 3, 11, 7, 8, 2, 10, 6, 0, 1, 5, 4] [] [] 20 #[.pointer (some ⟨q, 10, none⟩), iv v0_5] kf kf kf (fun _ => kf) (Tr.conv (Γ' := (HomesXA q qx qc) :: (TurnsA x9_7_h.b1 hc.turns) :: (Asn.own h (.cells #[.pointer (some ⟨x9_7_h.b0, 0, none⟩), .pointer (some ⟨x9_7_h.b1, 0, none⟩), iv hc.c.nodes, iv hc.c.lines, iv hc.c.words, iv hc.c.sets, iv hc.c.ways, iv hc.c.out, iv hc.c.inn, .slice x9_7_h.a9 (List.length hc.c.init) x9_7_h.c9, iv hc.node] x9_7_h.T (0, 0))) :: (DirA x9_7_h.b0 hc.dir) :: (ImmI x9_7_h.a9 hc.c.init) :: (ImmI qx.a7 qc.c.init) :: Γ) (fun w hw => (Sat.less (.take (.there (.there (.there (.there .here)))) (.take .here (.take .here (.take .here (.take .here (.take .here .refl)))))) hw)) (QOwnerF_tr q qx qc v0_5 y9_14 hy9_14)) ?_
     rintro _ _ ⟨rfl, rfl⟩
     refine ⟨stable_nil, ?_⟩
     refine dp 15 74 (.bool (!(decide (y9_9 = y9_14)))) ?_
     rcases Bool.eq_false_or_eq_true (!(decide (y9_9 = y9_14))) with h4 | h4
     ·replace H := bifT H h4
      refine d_pure 16 75 (.bool true) kf kf kf (run_eq (v := .bool (!(decide (y9_9 = y9_14)))) (fun _ => kf) (congrArg Value.bool h4)) ?_
      refine d_off 17 76 kf kf kf ?_
      refine d_off 18 77 kf kf kf ?_
      refine d_off 19 78 kf kf kf ?_
      refine d_off 20 79 kf kf kf ?_
      refine d_off 21 80 kf kf kf ?_
      refine d_off 22 81 kf kf kf ?_
      refine d_off 23 82 kf kf kf ?_
      refine d_off 24 83 kf kf kf ?_
      refine d_off 25 84 kf kf kf ?_
      refine d_off 26 85 kf kf kf ?_
      refine d_off 27 86 kf kf kf ?_
      refine d_off 28 87 kf kf kf ?_
      refine dp 29 88 (.bool true) ?_
      refine dp 30 89 (.bool true) ?_
      refine draw_end kf ?_
      refine ae [(0, .pointer (some ⟨h, 0, none⟩)), (1, .pointer (some ⟨q, 0, none⟩)), (5, iv v0_5), (89, .bool true)] ?_
      refine at_then_normal ?_
      refine at_true (t := true) (x := C23 [1,1,0,1,0,0,1,0,0,1,1,1,0]) (y := C23 [1,1,0,1,0,0,1,0,0,1,1,1,1]) (o := .tmp 89) kf kf kf rfl ?_
      refine At.conv (Γ' := (HomeXA h x9_7_h hc) :: (ImmI x9_7_h.a9 hc.c.init) :: (HomesXA q qx qc) :: (ImmI qx.a7 qc.c.init) :: Γ) (fun w hw => HomeXA.close (x := x9_7_h) (t := hc) (Sat.less (.take (.there (.there (.there (.there .here)))) (.take (.there (.there (.there (.there .here)))) (.take (.there (.there (.there .here))) (.take .here (.take .here (.take .here (.take .here .refl))))))) (ImmR.dup (Sat.less (.take (.there (.there (.there (.there .here)))) (.take .here (.take .here (.take .here (.take .here (.take .here .refl)))))) hw)))) ?_
      refine At.conv (Γ' := (HomeA h hc) :: (ImmI x9_7_h.a9 hc.c.init) :: (HomesXA q qx qc) :: (ImmI qx.a7 qc.c.init) :: Γ) (fun w hw => HomeXA.shut (hw.pull .here)) ?_
      refine aq (x := C23 [1,1,0,1,0,0,1,0,0,1,1,1,0,0]) (y := C23 [1,1,0,1,0,0,1,0,0,1,1,1,0,1]) ?_
      refine ar (id := 10) 1 ?_
      refine sp 4 (.bool false) ?_
      refine ops_end ?_
      refine ae [(4, .bool false)] ?_
      refine at_then_normal ?_
      refine at_ret kf ?_
      refine at_in_ret ?_
      refine at_then_ret ?_
      refine at_then_ret ?_
      refine at_in_ret ?_
      refine at_then_ret ?_
      obtain rfl := someE H
      refine at_backR [.bool false] ((HomeA h hc) :: (HomesXA q qx qc) :: Γ) (rs := [.tmp 4]) kf (.cons (.tmp kf) .nil) (fun w hw => (Sat.less (.take .here (.take (.there .here) (.drop .here (.drop .here .refl)))) hw)) ?_
      exact ⟨rfl, rfl⟩
     ·replace H := bifF H h4
      refine d_pure 16 75 (.bool false) kf kf kf (run_eq (v := .bool (!(decide (y9_9 = y9_14)))) (fun _ => kf) (congrArg Value.bool h4)) ?_
      refine dp 17 76 (.pointer (some ⟨h, 0, none⟩)) ?_
      refine dp 18 77 (.pointer (some ⟨h, 0, none⟩)) ?_
      refine dp 19 78 (.pointer (some ⟨h, 1, none⟩)) ?_
      refine dl 20 79 (.pointer (some ⟨x9_7_h.b1, 0, none⟩)) (load1 (off := 1) (fun _ => kf) (holds_own (.there (.there .here))) kf) ?_
      refine dp 21 80 (iv v0_5) ?_
      refine dp 23 82 (.pointer (some ⟨q, 0, none⟩)) ?_
      refine dp 24 83 (.pointer (some ⟨q, 0, none⟩)) ?_
      refine dp 25 84 (.pointer (some ⟨q, 10, none⟩)) ?_
      refine dp 26 85 (iv v0_5) ?_
      obtain ⟨y9_22, hy9_22, H⟩ := bindE H
      refine d_call 22 81 [20, 21, 16, 19, 15, 14, 3, 18, 9, 12, 13, 2, 17, 7, 8, 11, 0, 1, 6, 10, 5, 4] [26, 25, 24, 23] [] 12 #[.pointer (some ⟨x9_7_h.b1, 0, none⟩), iv v0_5] kf kf kf (fun _ => kf) (Tr.conv (Γ' := (TurnsA x9_7_h.b1 hc.turns) :: (HomesXA q qx qc) :: (Asn.own h (.cells #[.pointer (some ⟨x9_7_h.b0, 0, none⟩), .pointer (some ⟨x9_7_h.b1, 0, none⟩), iv hc.c.nodes, iv hc.c.lines, iv hc.c.words, iv hc.c.sets, iv hc.c.ways, iv hc.c.out, iv hc.c.inn, .slice x9_7_h.a9 (List.length hc.c.init) x9_7_h.c9, iv hc.node] x9_7_h.T (0, 0))) :: (DirA x9_7_h.b0 hc.dir) :: (ImmI x9_7_h.a9 hc.c.init) :: (ImmI qx.a7 qc.c.init) :: Γ) (fun w hw => (Sat.less (.take (.there .here) (.take .here (.take .here (.take .here (.take .here (.take .here .refl)))))) hw)) (TWaitingF_tr x9_7_h.b1 hc.turns v0_5 y9_22 hy9_22)) ?_
      rintro _ _ ⟨rfl, rfl⟩
      refine ⟨stable_nil, ?_⟩
      obtain ⟨y9_27, hy9_27, H⟩ := bindE H
      refine d_call 27 86 [25, 26, 22, 16, 24, 20, 21, 15, 14, 3, 23, 19, 9, 12, 13, 2, 18, 7, 8, 11, 0, 1, 17, 6, 10, 5, 4] [] [] 46 #[.pointer (some ⟨q, 10, none⟩), iv v0_5] kf kf kf (fun _ => kf) (Tr.conv (Γ' := (HomesXA q qx qc) :: (TurnsA x9_7_h.b1 hc.turns) :: (Asn.own h (.cells #[.pointer (some ⟨x9_7_h.b0, 0, none⟩), .pointer (some ⟨x9_7_h.b1, 0, none⟩), iv hc.c.nodes, iv hc.c.lines, iv hc.c.words, iv hc.c.sets, iv hc.c.ways, iv hc.c.out, iv hc.c.inn, .slice x9_7_h.a9 (List.length hc.c.init) x9_7_h.c9, iv hc.node] x9_7_h.T (0, 0))) :: (DirA x9_7_h.b0 hc.dir) :: (ImmI x9_7_h.a9 hc.c.init) :: (ImmI qx.a7 qc.c.init) :: Γ) (fun w hw => (Sat.less (.take (.there .here) (.take .here (.take .here (.take .here (.take .here (.take .here .refl)))))) hw)) (QWaitingF_tr q qx qc v0_5 y9_27 hy9_27)) ?_
      rintro _ _ ⟨rfl, rfl⟩
      refine ⟨stable_nil, ?_⟩
      refine dp 28 87 (.bool (!(decide (y9_22 = y9_27)))) ?_
      refine dp 29 88 (.bool (!(decide (y9_22 = y9_27)))) ?_
      refine dp 30 89 (.bool (!(decide (y9_22 = y9_27)))) ?_
      refine draw_end kf ?_
      refine ae [(0, .pointer (some ⟨h, 0, none⟩)), (1, .pointer (some ⟨q, 0, none⟩)), (5, iv v0_5), (89, .bool (!(decide (y9_22 = y9_27))))] ?_
      refine at_then_normal ?_
      rcases Bool.eq_false_or_eq_true (!(decide (y9_22 = y9_27))) with h5 | h5
      ·replace H := bifT H h5
       refine at_true (t := !(decide (y9_22 = y9_27))) (x := C23 [1,1,0,1,0,0,1,0,0,1,1,1,0]) (y := C23 [1,1,0,1,0,0,1,0,0,1,1,1,1]) (o := .tmp 89) kf kf kf h5 ?_
       refine At.conv (Γ' := (HomeXA h x9_7_h hc) :: (ImmI x9_7_h.a9 hc.c.init) :: (HomesXA q qx qc) :: (ImmI qx.a7 qc.c.init) :: Γ) (fun w hw => HomeXA.close (x := x9_7_h) (t := hc) (Sat.less (.take (.there (.there (.there (.there .here)))) (.take (.there (.there (.there (.there .here)))) (.take (.there (.there (.there .here))) (.take .here (.take .here (.take .here (.take .here .refl))))))) (ImmR.dup (Sat.less (.take (.there (.there (.there (.there .here)))) (.take .here (.take .here (.take .here (.take .here (.take .here .refl)))))) hw)))) ?_
       refine At.conv (Γ' := (HomeA h hc) :: (ImmI x9_7_h.a9 hc.c.init) :: (HomesXA q qx qc) :: (ImmI qx.a7 qc.c.init) :: Γ) (fun w hw => HomeXA.shut (hw.pull .here)) ?_
       refine aq (x := C23 [1,1,0,1,0,0,1,0,0,1,1,1,0,0]) (y := C23 [1,1,0,1,0,0,1,0,0,1,1,1,0,1]) ?_
       refine ar (id := 10) 1 ?_
       refine sp 4 (.bool false) ?_
       refine ops_end ?_
       refine ae [(4, .bool false)] ?_
       refine at_then_normal ?_
       refine at_ret kf ?_
       refine at_in_ret ?_
       refine at_then_ret ?_
       refine at_then_ret ?_
       refine at_in_ret ?_
       refine at_then_ret ?_
       obtain rfl := someE H
       refine at_backR [.bool false] ((HomeA h hc) :: (HomesXA q qx qc) :: Γ) (rs := [.tmp 4]) kf (.cons (.tmp kf) .nil) (fun w hw => (Sat.less (.take .here (.take (.there .here) (.drop .here (.drop .here .refl)))) hw)) ?_
       exact ⟨rfl, rfl⟩
      ·replace H := bifF H h5
       refine at_false (t := !(decide (y9_22 = y9_27))) (x := C23 [1,1,0,1,0,0,1,0,0,1,1,1,0]) (y := C23 [1,1,0,1,0,0,1,0,0,1,1,1,1]) (o := .tmp 89) kf kf kf h5 ?_
       refine at_skip kf ?_
       refine at_in_normal ?_
       refine at_then_normal ?_
       refine ar (id := 5) 3 ?_
       refine sp 28 (iv v0_5) ?_
       obtain ⟨hc5_1_0, H⟩ := chkE H
       refine sr 29 (iv (v0_5 + (1 : Int))) (run_eq (v := iv (IntKind.i64.wrap (v0_5 + (1 : Int)))) (fun _ => kf) (by rw [inR.wrap hc5_1_0])) ?_
       refine sp 5 (iv (v0_5 + (1 : Int))) ?_
       refine ops_end ?_
       refine ae [(0, .pointer (some ⟨h, 0, none⟩)), (1, .pointer (some ⟨q, 0, none⟩)), (5, iv (v0_5 + (1 : Int)))] ?_
       refine at_round_normal ?_
       refine At.conv (Γ' := (HomeXA h x9_7_h hc) :: (ImmI x9_7_h.a9 hc.c.init) :: (HomesXA q qx qc) :: (ImmI qx.a7 qc.c.init) :: Γ) (fun w hw => HomeXA.close (x := x9_7_h) (t := hc) (Sat.less (.take (.there (.there (.there (.there .here)))) (.take (.there (.there (.there (.there .here)))) (.take (.there (.there (.there .here))) (.take .here (.take .here (.take .here (.take .here .refl))))))) (ImmR.dup (Sat.less (.take (.there (.there (.there (.there .here)))) (.take .here (.take .here (.take .here (.take .here (.take .here .refl)))))) hw)))) ?_
       refine At.conv (Γ' := (HomeA h hc) :: (ImmI x9_7_h.a9 hc.c.init) :: (HomesXA q qx qc) :: (ImmI qx.a7 qc.c.init) :: Γ) (fun w hw => HomeXA.shut (hw.pull .here)) ?_
       exact at_roundR fuel1 [(0, .pointer (some ⟨h, 0, none⟩)), (1, .pointer (some ⟨q, 0, none⟩)), (5, iv (v0_5 + (1 : Int)))] ((HomesXA q qx qc) :: (HomeA h hc) :: Γ) (Nat.lt_succ_self _) ⟨kf, kf, kf, trivial⟩ (fun w hw => (Sat.less (.take (.there (.there .here)) (.take .here (.drop .here (.drop .here .refl)))) hw)) ⟨fuel1, v0_5 + (1 : Int), H, rfl, rfl, rfl⟩
    ·replace H := bifF H h3
     refine d_pure 3 62 (.bool false) kf kf kf (run_eq (v := .bool (y9_2)) (fun _ => kf) (congrArg Value.bool h3)) ?_
     refine d_off 4 63 kf kf kf ?_
     refine d_off 5 64 kf kf kf ?_
     refine d_off 6 65 kf kf kf ?_
     refine d_off 7 66 kf kf kf ?_
     refine d_off 8 67 kf kf kf ?_
     refine d_off 9 68 kf kf kf ?_
     refine d_off 10 69 kf kf kf ?_
     refine d_off 11 70 kf kf kf ?_
     refine d_off 12 71 kf kf kf ?_
     refine d_off 13 72 kf kf kf ?_
     refine d_off 14 73 kf kf kf ?_
     refine d_off 15 74 kf kf kf ?_
     refine d_off 16 75 kf kf kf ?_
     refine d_off 17 76 kf kf kf ?_
     refine d_off 18 77 kf kf kf ?_
     refine d_off 19 78 kf kf kf ?_
     refine d_off 20 79 kf kf kf ?_
     refine d_off 21 80 kf kf kf ?_
     refine d_off 22 81 kf kf kf ?_
     refine d_off 23 82 kf kf kf ?_
     refine d_off 24 83 kf kf kf ?_
     refine d_off 25 84 kf kf kf ?_
     refine d_off 26 85 kf kf kf ?_
     refine d_off 27 86 kf kf kf ?_
     refine d_off 28 87 kf kf kf ?_
     refine d_off 29 88 kf kf kf ?_
     refine dp 30 89 (.bool false) ?_
     refine draw_end kf ?_
     refine ae [(0, .pointer (some ⟨h, 0, none⟩)), (1, .pointer (some ⟨q, 0, none⟩)), (5, iv v0_5), (89, .bool false)] ?_
     refine at_then_normal ?_
     refine at_false (t := false) (x := C23 [1,1,0,1,0,0,1,0,0,1,1,1,0]) (y := C23 [1,1,0,1,0,0,1,0,0,1,1,1,1]) (o := .tmp 89) kf kf kf rfl ?_
     refine at_skip kf ?_
     refine at_in_normal ?_
     refine at_then_normal ?_
     refine ar (id := 5) 3 ?_
     refine sp 28 (iv v0_5) ?_
     obtain ⟨hc5_1_0, H⟩ := chkE H
     refine sr 29 (iv (v0_5 + (1 : Int))) (run_eq (v := iv (IntKind.i64.wrap (v0_5 + (1 : Int)))) (fun _ => kf) (by rw [inR.wrap hc5_1_0])) ?_
     refine sp 5 (iv (v0_5 + (1 : Int))) ?_
     refine ops_end ?_
     refine ae [(0, .pointer (some ⟨h, 0, none⟩)), (1, .pointer (some ⟨q, 0, none⟩)), (5, iv (v0_5 + (1 : Int)))] ?_
     refine at_round_normal ?_
     exact at_roundR fuel1 [(0, .pointer (some ⟨h, 0, none⟩)), (1, .pointer (some ⟨q, 0, none⟩)), (5, iv (v0_5 + (1 : Int)))] ((HomesXA q qx qc) :: (HomeA h hc) :: Γ) (Nat.lt_succ_self _) ⟨kf, kf, kf, trivial⟩ (fun w hw => (Sat.less (.take .here (.take .here (.drop .here .refl))) hw)) ⟨fuel1, v0_5 + (1 : Int), H, rfl, rfl, rfl⟩
   ·refine aq (x := C23 [1,1,0,1,0,0,1,0,0,1,0,0]) (y := C23 [1,1,0,1,0,0,1,0,0,1,0,1]) ?_
    refine at_region_draw (id := 7) kf kf ?_
    refine dp 0 39 (.bool y6_5.2) ?_
    refine dp 1 40 (.pointer (some ⟨q, 0, none⟩)) ?_
    refine dp 2 41 (iv v0_5) ?_
    obtain ⟨y7_3, hy7_3, H⟩ := bindE H
    refine d_call 3 42 [1, 2] [0] [] 40 #[.pointer (some ⟨q, 0, none⟩), iv v0_5] kf kf kf (fun _ => kf) (Tr.conv (Γ' := (HomesXA q qx qc) :: (HomeA h hc) :: (ImmI x6_3_h.a9 hc.c.init) :: (Asn.own b6_9 (.cells #[iv y6_5.1.state, iv y6_5.1.head, .slice a6_5_00 (List.length y6_5.1.data) c6_5_00] 92 (0, 0))) :: (IntsA a6_5_00 c6_5_00 y6_5.1.data) :: (ImmI qx.a7 qc.c.init) :: Γ) (fun w hw => (Sat.less (.take (.there (.there (.there (.there .here)))) (.take .here (.take .here (.take .here (.take .here (.take .here .refl)))))) hw)) (SHereF_tr q qx qc v0_5 y7_3 hy7_3)) ?_
    rintro _ _ ⟨rfl, rfl⟩
    refine ⟨stable_nil, ?_⟩
    refine dp 4 43 (.bool (!(y6_5.2 == y7_3))) ?_
    rcases Bool.eq_false_or_eq_true (!(y6_5.2 == y7_3)) with h6 | h6
    ·replace H := bifT H h6
     refine d_pure 5 44 (.bool true) kf kf kf (run_eq (v := .bool (!(y6_5.2 == y7_3))) (fun _ => kf) (congrArg Value.bool h6)) ?_
     refine d_off 6 45 kf kf kf ?_
     refine d_off 7 46 kf kf kf ?_
     refine d_off 8 47 kf kf kf ?_
     refine d_off 9 48 kf kf kf ?_
     refine d_off 10 49 kf kf kf ?_
     refine d_off 11 50 kf kf kf ?_
     refine d_off 12 51 kf kf kf ?_
     refine d_off 13 52 kf kf kf ?_
     refine d_off 14 53 kf kf kf ?_
     refine d_off 15 54 kf kf kf ?_
     refine d_off 16 55 kf kf kf ?_
     refine d_off 17 56 kf kf kf ?_
     refine d_off 18 57 kf kf kf ?_
     refine dp 19 58 (.bool true) ?_
     refine draw_end kf ?_
     refine ae [(0, .pointer (some ⟨h, 0, none⟩)), (1, .pointer (some ⟨q, 0, none⟩)), (5, iv v0_5), (58, .bool true)] ?_
     refine at_then_normal ?_
     refine at_true (t := true) (x := C23 [1,1,0,1,0,0,1,0,0,1,0,1,0]) (y := C23 [1,1,0,1,0,0,1,0,0,1,0,1,1]) (o := .tmp 58) kf kf kf rfl ?_
     refine aq (x := C23 [1,1,0,1,0,0,1,0,0,1,0,1,0,0]) (y := C23 [1,1,0,1,0,0,1,0,0,1,0,1,0,1]) ?_
     refine ar (id := 8) 1 ?_
     refine sp 4 (.bool false) ?_
     refine ops_end ?_
     refine ae [(4, .bool false)] ?_
     refine at_then_normal ?_
     refine at_ret kf ?_
     refine at_then_ret ?_
     refine at_in_ret ?_
     refine at_then_ret ?_
     refine at_then_ret ?_
     refine at_in_ret ?_
     refine at_then_ret ?_
     obtain rfl := someE H
     refine at_backR [.bool false] ((HomeA h hc) :: (HomesXA q qx qc) :: Γ) (rs := [.tmp 4]) kf (.cons (.tmp kf) .nil) (fun w hw => (Sat.less (.take (.there .here) (.take .here (.drop .here (.drop .here (.drop .here (.drop .here .refl)))))) hw)) ?_
     exact ⟨rfl, rfl⟩
    ·replace H := bifF H h6
     refine d_pure 5 44 (.bool false) kf kf kf (run_eq (v := .bool (!(y6_5.2 == y7_3))) (fun _ => kf) (congrArg Value.bool h6)) ?_
     refine dp 6 45 (.bool y6_5.2) ?_
     rcases Bool.eq_false_or_eq_true (y6_5.2) with h7 | h7
     ·replace H := bifT H h7
      refine d_pure 7 46 (.bool true) kf kf kf (run_eq (v := .bool (y6_5.2)) (fun _ => kf) (congrArg Value.bool h7)) ?_
      refine dl 8 47 (.agg #[iv y6_5.1.state, iv y6_5.1.head, .slice a6_5_00 (List.length y6_5.1.data) c6_5_00]) (loadN (off := 0) (vs := [iv y6_5.1.state, iv y6_5.1.head, .slice a6_5_00 (List.length y6_5.1.data) c6_5_00]) 3 (fun _ => kf) (holds_own (.there (.there (.there .here)))) rfl (by exact ⟨rfl, rfl, rfl, trivial⟩)) ?_
      refine dp 9 48 (.pointer (some ⟨q, 0, none⟩)) ?_
      refine dp 10 49 (.pointer (some ⟨q, 0, none⟩)) ?_
      refine dp 11 50 (.pointer (some ⟨q, 9, none⟩)) ?_
      refine HomesXA.open_draw .here ?_
      refine dl 12 51 (.slice qx.a9 (List.length qc.r) qx.c9) (load1 (off := 9) (fun _ => kf) (holds_own .here) kf) ?_
      refine dp 13 52 (iv v0_5) ?_
      obtain ⟨hc7_14_0, H⟩ := chkE H
      refine rd_at_draw (RecsX.rd (α := RowS) (.there (.there .here))) (by have := hc7_14_0; omega) ?_
      intro bb1 oo1 ha1
      refine d_pure 14 53 (.pointer (some ⟨bb1, oo1 + (((v0_5).toNat) * 3 + 0), none⟩)) kf kf kf (index_at (t := 54) (sz := 3) (E := 82) (a := qx.a9) (m := (List.length qc.r)) (c := qx.c9) (b := bb1) (off := oo1) (i := (v0_5).toNat) (tinfo 82) (fun _ => kf) kf kf kf ha1 (idx_cast hc7_14_0) (idx_nat hc7_14_0) rfl) ?_
      obtain ⟨x7_15, hx7_15, H⟩ := letE H
      refine rd_get_draw (RecsX.rd (α := RowS) (.there (.there .here))) hc7_14_0 ?_
      intro a7_15 c7_15 hrx7_15
      rw [hx7_15] at hrx7_15 ⊢
      refine dl 15 54 (.agg #[iv x7_15.state, iv x7_15.head, .slice a7_15 (List.length x7_15.data) c7_15]) (loadP_at (m := 3) (k := 3) (vs := [iv x7_15.state, iv x7_15.head, .slice a7_15 (List.length x7_15.data) c7_15]) (off := oo1) (i := (v0_5).toNat) (j := 0) (fun _ => kf) rfl rfl (fun q v hq => rd_row (j := 0 + q) (RecsX.rd (α := RowS) (.there (.there (.there .here)))) ha1 hrx7_15 (rowP (j := 0) (m := 3) kf hq))) ?_
      obtain ⟨y7_16, hy7_16, H⟩ := bindE H
      refine d_call 16 55 [8, 15, 7, 14, 6, 5, 12, 13, 4, 3, 11, 0, 1, 2, 10, 9] [] [] 45 #[.agg #[iv y6_5.1.state, iv y6_5.1.head, .slice a6_5_00 (List.length y6_5.1.data) c6_5_00], .agg #[iv x7_15.state, iv x7_15.head, .slice a7_15 (List.length x7_15.data) c7_15]] kf kf kf (fun _ => kf) (SameRowF_tr a6_5_00 c6_5_00 y6_5.1 a7_15 c7_15 x7_15 (RowsA.reads (k := 1) (.there (.there (.there (.there (.there (.there (.there (.there (.there .here)))))))))) (ImmR.reads (k := 1) .here) y7_16 hy7_16) ?_
      rintro _ _ ⟨rfl, rfl⟩
      refine ⟨stable_nil, ?_⟩
      refine dp 17 56 (.bool !y7_16) ?_
      refine dp 18 57 (.bool !y7_16) ?_
      refine dp 19 58 (.bool !y7_16) ?_
      refine draw_end kf ?_
      refine ae [(0, .pointer (some ⟨h, 0, none⟩)), (1, .pointer (some ⟨q, 0, none⟩)), (5, iv v0_5), (58, .bool !y7_16)] ?_
      refine at_then_normal ?_
      rcases Bool.eq_false_or_eq_true (!y7_16) with h8 | h8
      ·replace H := bifT H h8
       refine at_true (t := !y7_16) (x := C23 [1,1,0,1,0,0,1,0,0,1,0,1,0]) (y := C23 [1,1,0,1,0,0,1,0,0,1,0,1,1]) (o := .tmp 58) kf kf kf h8 ?_
       refine At.conv (Γ' := (HomesXA q qx qc) :: (ImmI qx.a7 qc.c.init) :: (ImmI a7_15 x7_15.data) :: (HomeA h hc) :: (ImmI x6_3_h.a9 hc.c.init) :: (Asn.own b6_9 (.cells #[iv y6_5.1.state, iv y6_5.1.head, .slice a6_5_00 (List.length y6_5.1.data) c6_5_00] 92 (0, 0))) :: (IntsA a6_5_00 c6_5_00 y6_5.1.data) :: (ImmI qx.a7 qc.c.init) :: Γ) (fun w hw => HomesXA.close (x := qx) (t := qc) (Sat.less (.take (.there (.there (.there .here))) (.take .here (.take (.there (.there .here)) (.take (.there (.there .here)) (.take (.there (.there .here)) (.take .here (.take .here (.take .here (.take .here (.take .here (.take .here (.take .here .refl)))))))))))) (ImmR.dup (Sat.less (.take (.there (.there .here)) (.take .here (.take .here (.take .here (.take .here (.take .here (.take .here (.take .here (.take .here (.take .here (.take .here .refl))))))))))) hw)))) ?_
       refine aq (x := C23 [1,1,0,1,0,0,1,0,0,1,0,1,0,0]) (y := C23 [1,1,0,1,0,0,1,0,0,1,0,1,0,1]) ?_
       refine ar (id := 8) 1 ?_
       refine sp 4 (.bool false) ?_
       refine ops_end ?_
       refine ae [(4, .bool false)] ?_
       refine at_then_normal ?_
       refine at_ret kf ?_
       refine at_then_ret ?_
       refine at_in_ret ?_
       refine at_then_ret ?_
       refine at_then_ret ?_
       refine at_in_ret ?_
       refine at_then_ret ?_
       obtain rfl := someE H
       refine at_backR [.bool false] ((HomeA h hc) :: (HomesXA q qx qc) :: Γ) (rs := [.tmp 4]) kf (.cons (.tmp kf) .nil) (fun w hw => (Sat.less (.take (.there (.there (.there .here))) (.take .here (.drop .here (.drop .here (.drop .here (.drop .here (.drop .here (.drop .here .refl)))))))) hw)) ?_
       exact ⟨rfl, rfl⟩
      ·replace H := bifF H h8
       refine at_false (t := !y7_16) (x := C23 [1,1,0,1,0,0,1,0,0,1,0,1,0]) (y := C23 [1,1,0,1,0,0,1,0,0,1,0,1,1]) (o := .tmp 58) kf kf kf h8 ?_
       refine at_skip kf ?_
       refine at_round_normal ?_
       refine At.conv (Γ' := (HomesXA q qx qc) :: (ImmI qx.a7 qc.c.init) :: (ImmI a7_15 x7_15.data) :: (HomeA h hc) :: (ImmI x6_3_h.a9 hc.c.init) :: (Asn.own b6_9 (.cells #[iv y6_5.1.state, iv y6_5.1.head, .slice a6_5_00 (List.length y6_5.1.data) c6_5_00] 92 (0, 0))) :: (IntsA a6_5_00 c6_5_00 y6_5.1.data) :: (ImmI qx.a7 qc.c.init) :: Γ) (fun w hw => HomesXA.close (x := qx) (t := qc) (Sat.less (.take (.there (.there (.there .here))) (.take .here (.take (.there (.there .here)) (.take (.there (.there .here)) (.take (.there (.there .here)) (.take .here (.take .here (.take .here (.take .here (.take .here (.take .here (.take .here .refl)))))))))))) (ImmR.dup (Sat.less (.take (.there (.there .here)) (.take .here (.take .here (.take .here (.take .here (.take .here (.take .here (.take .here (.take .here (.take .here (.take .here .refl))))))))))) hw)))) ?_
       exact at_join_mk [(0, .pointer (some ⟨h, 0, none⟩)), (1, .pointer (some ⟨q, 0, none⟩)), (5, iv v0_5)] ((HomeA h hc) :: (HomesXA q qx qc) :: (ImmI qx.a7 qc.c.init) :: Γ) ⟨kf, kf, kf, trivial⟩ (fun w hw => (Sat.less (.take (.there (.there (.there .here))) (.take .here (.take .here (.drop .here (.drop .here (.drop .here (.drop .here (.drop .here .refl)))))))) hw)) ⟨H, rfl, rfl⟩
     ·replace H := bifF H h7
      refine d_pure 7 46 (.bool false) kf kf kf (run_eq (v := .bool (y6_5.2)) (fun _ => kf) (congrArg Value.bool h7)) ?_
      refine d_off 8 47 kf kf kf ?_
      refine d_off 9 48 kf kf kf ?_
      refine d_off 10 49 kf kf kf ?_
      refine d_off 11 50 kf kf kf ?_
      refine d_off 12 51 kf kf kf ?_
      refine d_off 13 52 kf kf kf ?_
      refine d_off 14 53 kf kf kf ?_
      refine d_off 15 54 kf kf kf ?_
      refine d_off 16 55 kf kf kf ?_
      refine d_off 17 56 kf kf kf ?_
      refine dp 18 57 (.bool false) ?_
      refine dp 19 58 (.bool false) ?_
      refine draw_end kf ?_
      refine ae [(0, .pointer (some ⟨h, 0, none⟩)), (1, .pointer (some ⟨q, 0, none⟩)), (5, iv v0_5), (58, .bool false)] ?_
      refine at_then_normal ?_
      refine at_false (t := false) (x := C23 [1,1,0,1,0,0,1,0,0,1,0,1,0]) (y := C23 [1,1,0,1,0,0,1,0,0,1,0,1,1]) (o := .tmp 58) kf kf kf rfl ?_
      refine at_skip kf ?_
      refine at_round_normal ?_
      exact at_join_mk [(0, .pointer (some ⟨h, 0, none⟩)), (1, .pointer (some ⟨q, 0, none⟩)), (5, iv v0_5)] ((HomeA h hc) :: (HomesXA q qx qc) :: (ImmI qx.a7 qc.c.init) :: Γ) ⟨kf, kf, kf, trivial⟩ (fun w hw => (Sat.less (.take (.there .here) (.take .here (.take (.there (.there (.there .here))) (.drop .here (.drop .here (.drop .here .refl)))))) hw)) ⟨H, rfl, rfl⟩
  ·replace H := bifF H h2
   refine at_false (t := decide (v0_5 ≤ qc.c.lines)) (x := C23 [1,1,0,1,0,0,0,1,0]) (y := C23 [1,1,0,1,0,0,0,1,1]) (o := .tmp 27) kf kf kf h2 ?_
   refine at_exit (i := 0) kf ?_
   refine at_then_exit ?_
   refine at_then_exit ?_
   refine At.conv (Γ' := (HomesXA q qx qc) :: (ImmI qx.a7 qc.c.init) :: (HomeA h hc) :: Γ) (fun w hw => HomesXA.close (x := qx) (t := qc) (Sat.less (.take (.there (.there .here)) (.take .here (.take (.there .here) (.take (.there .here) (.take (.there .here) (.take .here (.take .here .refl))))))) (ImmR.dup (Sat.less (.take (.there .here) (.take .here (.take .here (.take .here (.take .here (.take .here .refl)))))) hw)))) ?_
   rw [same11S_k0] at H
   refine ae [(0, .pointer (some ⟨h, 0, none⟩)), (1, .pointer (some ⟨q, 0, none⟩)), (5, iv v0_5)] ?_
   refine At.conv (Γ' := (HomesXA q qx qc) :: (HomeA h hc) :: Γ) (fun w hw => (Sat.less (.take .here (.take (.there .here) (.drop .here .refl))) hw)) ?_
   refine at_in_here ?_
   refine at_then_normal ?_
   refine aq (x := C23 [1,1,1,0]) (y := C23 [1,1,1,1]) ?_
   refine ar (id := 11) 1 ?_
   refine sp 4 (.bool true) ?_
   refine ops_end ?_
   refine ae [(4, .bool true)] ?_
   refine at_then_normal ?_
   refine at_ret kf ?_
   obtain rfl := someE H
   refine at_backR [.bool true] ((HomeA h hc) :: (HomesXA q qx qc) :: Γ) (rs := [.tmp 4]) kf (.cons (.tmp kf) .nil) (fun w hw => (Sat.less (.take (.there .here) (.take .here .refl)) hw)) ?_
   exact ⟨rfl, rfl⟩
end Go.Proofs.Ytcigheahollkcaa
