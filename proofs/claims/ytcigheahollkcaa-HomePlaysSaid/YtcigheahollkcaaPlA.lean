/- What a machine is made of: each function answers what its plain function says. -/
import Derived.Test.YtcigheahollkcaaOwnB
import Derived.Test.YtcigheahollkcaaSlRMap
import Derived.Test.YtcigheahollkcaaKsA
namespace Go.Proofs.Ytcigheahollkcaa
open Go Go.RowKit
set_option linter.unusedVariables false
set_option linter.unusedSimpArgs false
abbrev iv (x : Int) : Value := Value.int .i64 x
structure CfgS where
 nodes : Int
 lines : Int
 words : Int
 sets : Int
 ways : Int
 out : Int
 inn : Int
 init : List Int
structure SetupS where
 nodes : Int
 lines : Int
 words : Int
 sets : Int
 ways : Int
 out : Int
 inn : Int
 init : List Int
 who : List Int
 kinds : List Int
 addrs : List Int
 values : List Int
structure RowS where
 state : Int
 head : Int
 data : List Int
def rowSRow (p : RowS) (a : Option Addr) (c : Nat) : List Value := [.int .i64 p.state, .int .i64 p.head, .slice a p.data.length c]
instance recRowS : Rec RowS := ⟨3, rowSRow, fun p => p.data, ⟨0, 0, []⟩, by decide, fun _ _ _ => rfl, fun _ _ _ => rfl, fun x a c a' c' h => by simp [rowSRow] at h; exact .inl h.1, fun x a c a' c' h => by simp [rowSRow] at h; exact .inl h.2⟩
def prestS (line : Int) (by_ : Int) : Option (Int) :=
 (bif decide (line < (0 : Int)) then some ((-1) : Int) else chk (1 ≤ by_) (some (line.tmod by_)))
noncomputable def C49 (p : List Nat) : Code := codeAt (bodyOf Try.f49) p
set_option maxRecDepth 100000 in
set_option maxHeartbeats 8000000 in
theorem PRestF_tr {W0 : World} {Γ : List Asn} (line : Int) (by_ : Int)  (y : Int) (H : prestS line by_ = some y) : Tr Try.prog 49 #[.int .i64 line, .int .i64 by_] W0 (Γ) (fun r Δ => r = .int .i64 y ∧ Δ = Γ) := by
 unfold prestS at H
 refine Tr.enter (fn := Try.f49) (c := C49 []) (args := [.int .i64 line, .int .i64 by_]) 10 Try.func49 kf kf ?_
 refine ae [(0, .int .i64 line), (1, .int .i64 by_)] ?_
 refine aq (x := C49 [0]) (y := C49 [1]) ?_
 refine ar (id := 0) 1 ?_
 refine sp 4 (.int .i64 (0)) ?_
 refine ops_end ?_
 refine ae [(0, .int .i64 line), (1, .int .i64 by_)] ?_
 refine at_then_normal ?_
 refine aq (x := C49 [1,0]) (y := C49 [1,1]) ?_
 refine aq (x := C49 [1,0,0]) (y := C49 [1,0,1]) ?_
 refine ar (id := 1) 2 ?_
 refine sp 5 (.int .i64 line) ?_
 refine sp 6 (.bool (decide (line < (0 : Int)))) ?_
 refine ops_end ?_
 refine ae [(0, .int .i64 line), (1, .int .i64 by_), (6, .bool (decide (line < (0 : Int))))] ?_
 refine at_then_normal ?_
 rcases Bool.eq_false_or_eq_true (decide (line < (0 : Int))) with h1 | h1
 ·replace H := bifT H h1
  refine at_true (t := decide (line < (0 : Int))) (x := C49 [1,0,1,0]) (y := C49 [1,0,1,1]) (o := .tmp 6) kf kf kf h1 ?_
  refine aq (x := C49 [1,0,1,0,0]) (y := C49 [1,0,1,0,1]) ?_
  refine ar (id := 2) 1 ?_
  refine sp 4 (.int .i64 (-1)) ?_
  refine ops_end ?_
  refine ae [(4, .int .i64 (-1))] ?_
  refine at_then_normal ?_
  refine at_ret kf ?_
  refine at_then_ret ?_
  obtain rfl := someE H
  refine at_backR [.int .i64 (-1)] (Γ) (rs := [.tmp 4]) kf (.cons (.tmp kf) .nil) (fun w hw => (Sat.less .refl hw)) ?_
  exact ⟨rfl, rfl⟩
 ·replace H := bifF H h1
  refine at_false (t := decide (line < (0 : Int))) (x := C49 [1,0,1,0]) (y := C49 [1,0,1,1]) (o := .tmp 6) kf kf kf h1 ?_
  refine at_skip kf ?_
  refine at_then_normal ?_
  refine aq (x := C49 [1,1,0]) (y := C49 [1,1,1]) ?_
  refine ar (id := 3) 4 ?_
  refine sp 7 (.int .i64 line) ?_
  refine sp 8 (.int .i64 by_) ?_
  obtain ⟨hc3_2_0, H⟩ := chkE H
  refine sr 9 (.int .i64 (line.tmod by_)) (run_remP (a := line) (b := by_) (fun _ => kf) hc3_2_0) ?_
  refine sp 4 (.int .i64 (line.tmod by_)) ?_
  refine ops_end ?_
  refine ae [(4, .int .i64 (line.tmod by_))] ?_
  refine at_then_normal ?_
  refine at_ret kf ?_
  obtain rfl := someE H
  refine at_backR [.int .i64 (line.tmod by_)] (Γ) (rs := [.tmp 4]) kf (.cons (.tmp kf) .nil) (fun w hw => (Sat.less .refl hw)) ?_
  exact ⟨rfl, rfl⟩
def phomeS (c : CfgS) (line : Int) : Option (Int) :=
 (prestS line c.nodes).bind fun y1_3 => some y1_3
noncomputable def C28 (p : List Nat) : Code := codeAt (bodyOf Try.f28) p
set_option maxRecDepth 100000 in
set_option maxHeartbeats 8000000 in
theorem PHomeF_tr {W0 : World} {Γ : List Asn} (ca : Option Addr) (ccap : Nat) (c : CfgS) (line : Int) (hrca : Reads W0 Γ ca (ints c.init)) (y : Int) (H : phomeS c line = some y) : Tr Try.prog 28 #[.agg #[.int .i64 c.nodes, .int .i64 c.lines, .int .i64 c.words, .int .i64 c.sets, .int .i64 c.ways, .int .i64 c.out, .int .i64 c.inn, .slice ca (List.length c.init) ccap], .int .i64 line] W0 (Γ) (fun r Δ => r = .int .i64 y ∧ Δ = Γ) := by
 unfold phomeS at H
 refine Tr.enter (fn := Try.f28) (c := C28 []) (args := [.agg #[.int .i64 c.nodes, .int .i64 c.lines, .int .i64 c.words, .int .i64 c.sets, .int .i64 c.ways, .int .i64 c.out, .int .i64 c.inn, .slice ca (List.length c.init) ccap], .int .i64 line]) 9 Try.func28 kf kf ?_
 refine ae [(0, .agg #[.int .i64 c.nodes, .int .i64 c.lines, .int .i64 c.words, .int .i64 c.sets, .int .i64 c.ways, .int .i64 c.out, .int .i64 c.inn, .slice ca (List.length c.init) ccap]), (1, .int .i64 line)] ?_
 refine aq (x := C28 [0]) (y := C28 [1]) ?_
 refine ar (id := 0) 2 ?_
 refine s_step 2 kf kf (st_new (T := 26) (cells := #[.int .i64 c.nodes, .int .i64 c.lines, .int .i64 c.words, .int .i64 c.sets, .int .i64 c.ways, .int .i64 c.out, .int .i64 c.inn, .slice ca (List.length c.init) ccap]) (fun a => .pointer (some a)) (fun _ => kf)) ?_
 rintro _ _ ⟨b0_0, rfl, rfl⟩
 refine sp 4 (.int .i64 (0)) ?_
 refine ops_end ?_
 refine ae [(1, .int .i64 line), (2, .pointer (some ⟨b0_0, 0, none⟩))] ?_
 refine at_then_normal ?_
 refine aq (x := C28 [1,0]) (y := C28 [1,1]) ?_
 refine ar (id := 1) 5 ?_
 refine sp 5 (.int .i64 line) ?_
 refine sp 6 (.pointer (some ⟨b0_0, 0, none⟩)) ?_
 refine sl 7 (.int .i64 c.nodes) (load1 (off := 0) (fun _ => kf) (holds_own .here) kf) ?_
 obtain ⟨y1_3, hy1_3, H⟩ := bindE H
 refine s_quiet 8 (.int .i64 y1_3) 49 #[.int .i64 line, .int .i64 c.nodes] kf kf (fun _ => kf) (PRestF_tr line c.nodes y1_3 hy1_3) ?_
 refine sp 4 (.int .i64 y1_3) ?_
 refine ops_end ?_
 refine ae [(4, .int .i64 y1_3)] ?_
 refine at_then_normal ?_
 refine at_ret kf ?_
 obtain rfl := someE H
 refine at_backR [.int .i64 y1_3] (Γ) (rs := [.tmp 4]) kf (.cons (.tmp kf) .nil) (fun w hw => (Sat.less (.drop .here .refl) hw)) ?_
 exact ⟨rfl, rfl⟩
def pwordsS_j0 (c : CfgS) (line : Int) (e0_14 : Bool) : Option ((List Int)) :=
 (bif e0_14 then some ([] : List Int) else chk (0 ≤ c.words ∧ c.words ≤ 1099511627776) (letP (List.replicate (c.words).toNat (0 : Int)) fun l3_2 => letP (if (((List.length c.init) : Nat) : Int) < (wr (line * c.words)) then (((List.length c.init) : Nat) : Int) else (wr (line * c.words))) fun u4_7 => chk (0 ≤ u4_7 ∧ u4_7 ≤ (((List.length c.init) : Nat) : Int) ∧ (((List.length c.init) : Nat) : Int) ≤ ((c.init.length : Nat) : Int)) (letP ((c.init.drop (u4_7).toNat).take ((List.length c.init) - (u4_7).toNat)) fun l5_4 => letP (cpI l3_2 l5_4) fun l5_5 => some l5_5)))
def pwordsS (c : CfgS) (line : Int) : Option ((List Int)) :=
 (bif decide (line < (0 : Int)) then pwordsS_j0 c line true else pwordsS_j0 c line (decide (c.lines ≤ line)))
noncomputable def C47 (p : List Nat) : Code := codeAt (bodyOf Try.f47) p
set_option maxRecDepth 100000 in
set_option maxHeartbeats 8000000 in
theorem PWordsF_tr {W0 : World} {Γ : List Asn} (ca : Option Addr) (ccap : Nat) (c : CfgS) (line : Int) (hrca : Reads W0 Γ ca (ints c.init)) (hcca : c.init.length ≤ ccap) (y : (List Int)) (H : pwordsS c line = some y) : Tr Try.prog 47 #[.agg #[.int .i64 c.nodes, .int .i64 c.lines, .int .i64 c.words, .int .i64 c.sets, .int .i64 c.ways, .int .i64 c.out, .int .i64 c.inn, .slice ca (List.length c.init) ccap], .int .i64 line] W0 (Γ) (fun r Δ => ∃ (a0_0 : Option Addr) (c0_0 : Nat), r = .slice a0_0 (List.length y) c0_0 ∧ Δ = (IntsA a0_0 c0_0 y) :: Γ) := by
 unfold pwordsS at H
 refine Tr.enter (fn := Try.f47) (c := C47 []) (args := [.agg #[.int .i64 c.nodes, .int .i64 c.lines, .int .i64 c.words, .int .i64 c.sets, .int .i64 c.ways, .int .i64 c.out, .int .i64 c.inn, .slice ca (List.length c.init) ccap], .int .i64 line]) 33 Try.func47 kf kf ?_
 refine ae [(0, .agg #[.int .i64 c.nodes, .int .i64 c.lines, .int .i64 c.words, .int .i64 c.sets, .int .i64 c.ways, .int .i64 c.out, .int .i64 c.inn, .slice ca (List.length c.init) ccap]), (1, .int .i64 line)] ?_
 refine aq (x := C47 [0]) (y := C47 [1]) ?_
 refine ar (id := 0) 2 ?_
 refine s_step 2 kf kf (st_new (T := 26) (cells := #[.int .i64 c.nodes, .int .i64 c.lines, .int .i64 c.words, .int .i64 c.sets, .int .i64 c.ways, .int .i64 c.out, .int .i64 c.inn, .slice ca (List.length c.init) ccap]) (fun a => .pointer (some a)) (fun _ => kf)) ?_
 rintro _ _ ⟨b0_0, rfl, rfl⟩
 refine sp 4 (.slice none 0 0) ?_
 refine ops_end ?_
 refine ae [(1, .int .i64 line), (2, .pointer (some ⟨b0_0, 0, none⟩))] ?_
 refine at_then_normal ?_
 refine aq (x := C47 [1,0]) (y := C47 [1,1]) ?_
 refine at_seq_join (x := C47 [1,0,0]) (y := C47 [1,0,1]) (fun ff ΔΔ => ∃ (e0_14 : Bool), pwordsS_j0 c line e0_14 = some y ∧ ff = [(1, .int .i64 line), (2, .pointer (some ⟨b0_0, 0, none⟩)), (14, .bool e0_14)] ∧ (Asn.own b0_0 (.cells #[.int .i64 c.nodes, .int .i64 c.lines, .int .i64 c.words, .int .i64 c.sets, .int .i64 c.ways, .int .i64 c.out, .int .i64 c.inn, .slice ca (List.length c.init) ccap] 26 (0, 0))) :: Γ = ΔΔ) kf ?_ ?_
 ·rintro _ _ ⟨e0_14, H, rfl, rfl⟩
  rw [pwordsS_j0] at H
  rcases Bool.eq_false_or_eq_true (e0_14) with h1 | h1
  ·replace H := bifT H h1
   refine at_true (t := e0_14) (x := C47 [1,0,1,0]) (y := C47 [1,0,1,1]) (o := .tmp 14) kf kf kf h1 ?_
   refine aq (x := C47 [1,0,1,0,0]) (y := C47 [1,0,1,0,1]) ?_
   refine ar (id := 2) 1 ?_
   refine sp 4 (.slice none 0 0) ?_
   refine ops_end ?_
   refine ae [(4, .slice none 0 0)] ?_
   refine at_then_normal ?_
   refine at_ret kf ?_
   refine at_then_ret ?_
   obtain rfl := someE H
   refine at_backR [.slice none 0 0] ((IntsA none 0 ([] : List Int)) :: Γ) (rs := [.tmp 4]) kf (.cons (.tmp kf) .nil) (fun w hw => (Sat.less (.take .here (.drop .here .refl)) (RowsA.none_mk (k := 1) (a := none) hw))) ?_
   exact ⟨none, 0, rfl, rfl⟩
  ·replace H := bifF H h1
   refine at_false (t := e0_14) (x := C47 [1,0,1,0]) (y := C47 [1,0,1,1]) (o := .tmp 14) kf kf kf h1 ?_
   refine at_skip kf ?_
   refine at_then_normal ?_
   refine aq (x := C47 [1,1,0]) (y := C47 [1,1,1]) ?_
   refine ar (id := 3) 4 ?_
   refine sp 15 (.pointer (some ⟨b0_0, 2, none⟩)) ?_
   refine sl 16 (.int .i64 c.words) (load1 (off := 2) (fun _ => kf) (holds_own .here) kf) ?_
   obtain ⟨hc3_2_0, H⟩ := chkE H
   obtain ⟨l3_2, hl3_2, H⟩ := letE H
   refine s_step 17 kf kf (st_make_ints (t := 22) (E := 3) (c := c.words) (tinfo 3) (fun _ => kf) kf kf kf kf kf hc3_2_0 hl3_2) ?_
   rintro _ _ ⟨b3_2, rfl, rfl⟩
   refine sp 5 (.slice (some ⟨b3_2, 0, none⟩) (List.length l3_2) ((c.words).toNat)) ?_
   refine ops_end ?_
   refine ae [(1, .int .i64 line), (2, .pointer (some ⟨b0_0, 0, none⟩)), (5, .slice (some ⟨b3_2, 0, none⟩) (List.length l3_2) ((c.words).toNat))] ?_
   refine at_then_normal ?_
   refine aq (x := C47 [1,1,1,0]) (y := C47 [1,1,1,1]) ?_
   refine ar (id := 4) 9 ?_
   refine sp 18 (.int .i64 line) ?_
   refine sp 19 (.pointer (some ⟨b0_0, 2, none⟩)) ?_
   refine sl 20 (.int .i64 c.words) (load1 (off := 2) (fun _ => kf) (holds_own (.there .here)) kf) ?_
   refine sp 21 (.int .i64 (wr (line * c.words))) ?_
   refine sp 22 (.pointer (some ⟨b0_0, 7, none⟩)) ?_
   refine sl 23 (.slice ca (List.length c.init) ccap) (load1 (off := 7) (fun _ => kf) (holds_own (.there .here)) kf) ?_
   refine sp 24 (.int .i64 (((List.length c.init) : Nat) : Int)) ?_
   obtain ⟨u4_7, hu4_7, H⟩ := letE H
   refine sr 25 (.int .i64 u4_7) (run_eq (v := .int .i64 (if (((List.length c.init) : Nat) : Int) < (wr (line * c.words)) then (((List.length c.init) : Nat) : Int) else (wr (line * c.words)))) (run_eq (v := .int .i64 (if (((List.length c.init) : Nat) : Int) < (wr (line * c.words)) then (((List.length c.init) : Nat) : Int) else (wr (line * c.words)))) (fun _ => kf) rfl) (by rw [hu4_7])) ?_
   refine sp 6 (.int .i64 u4_7) ?_
   refine ops_end ?_
   refine ae [(2, .pointer (some ⟨b0_0, 0, none⟩)), (5, .slice (some ⟨b3_2, 0, none⟩) (List.length l3_2) ((c.words).toNat)), (6, .int .i64 u4_7)] ?_
   refine at_then_normal ?_
   refine aq (x := C47 [1,1,1,1,0]) (y := C47 [1,1,1,1,1]) ?_
   refine ar (id := 5) 6 ?_
   refine sp 26 (.slice (some ⟨b3_2, 0, none⟩) (List.length l3_2) ((c.words).toNat)) ?_
   refine sp 27 (.pointer (some ⟨b0_0, 7, none⟩)) ?_
   refine sl 28 (.slice ca (List.length c.init) ccap) (load1 (off := 7) (fun _ => kf) (holds_own (.there .here)) kf) ?_
   refine sp 29 (.int .i64 u4_7) ?_
   obtain ⟨hc5_4_0, H⟩ := chkE H
   obtain ⟨l5_4, hl5_4, H⟩ := letE H
   have hcapl5_4 : (List.length c.init) ≤ ccap := hcca
   have hcl5_4 := hc5_4_0
   obtain ⟨a5_4, ha5_4⟩ : ∃ y : Option Addr, y = (if ccap = (u4_7).toNat then ca else Option.map (fun x => Addr.add x ((u4_7).toNat * 1)) ca) := ⟨_, rfl⟩
   have hrl5_4 : Reads W0 ((IntsA (some ⟨b3_2, 0, none⟩) ((c.words).toNat) l3_2) :: (Asn.own b0_0 (.cells #[.int .i64 c.nodes, .int .i64 c.lines, .int .i64 c.words, .int .i64 c.sets, .int .i64 c.ways, .int .i64 c.out, .int .i64 c.inn, .slice ca (List.length c.init) ccap] 26 (0, 0))) :: Γ) a5_4 (ints l5_4) := by rw [ha5_4, ← hl5_4]; exact Reads.part (lo := (u4_7).toNat) (hi := (List.length c.init)) (Reads.conv (fun w hw => hw.less (.drop .here (.drop .here .refl))) hrca) rfl (by omega)
   refine sr 30 (.slice a5_4 (List.length l5_4) (ccap - (u4_7).toNat)) (run_eq (slice_at (t := 22) (lo := (u4_7).toNat) (hi := (List.length c.init)) (mx := ccap) (sz := 1) (E := 3) (a := ca) (m := (List.length c.init)) (c := ccap) (some (.int .i64 u4_7)) none none (tinfo 3) (fun _ => kf) kf kf kf (Or.inr ⟨_, rfl, by omega⟩) (Or.inl ⟨rfl, rfl, rfl⟩) (Or.inl ⟨rfl, rfl⟩) (by omega) (by omega) (by omega)) (by rw [← ha5_4, show (List.length c.init) - (u4_7).toNat = List.length l5_4 from by rw [← hl5_4]; simp only [List.length_take, List.length_drop]; omega])) ?_
   obtain ⟨l5_5, hl5_5, H⟩ := letE H
   refine s_step 31 kf kf (st_copy_ints (t := 22) (t2 := 22) (tr := 3) (E := 3) (m1 := (List.length l3_2)) (m2 := (List.length l5_4)) (c2 := (ccap - (u4_7).toNat)) (xs := l3_2) (ys := l5_4) (tinfo 3) (fun _ => kf) kf kf kf rfl (by first | rfl | simp) .here (Reads.conv (fun w hw => hw.less (.take .here (.take .here .refl))) hrl5_4) hl5_5) ?_
   rintro _ _ ⟨rfl, rfl⟩
   have hnl5_5 : List.length l3_2 = List.length l5_5 := by rw [← hl5_5, cpI_len]
   try rw [hnl5_5]
   refine ops_end ?_
   refine ae [(5, .slice (some ⟨b3_2, 0, none⟩) (List.length l5_5) ((c.words).toNat))] ?_
   refine at_then_normal ?_
   refine aq (x := C47 [1,1,1,1,1,0]) (y := C47 [1,1,1,1,1,1]) ?_
   refine ar (id := 6) 2 ?_
   refine sp 32 (.slice (some ⟨b3_2, 0, none⟩) (List.length l5_5) ((c.words).toNat)) ?_
   refine sp 4 (.slice (some ⟨b3_2, 0, none⟩) (List.length l5_5) ((c.words).toNat)) ?_
   refine ops_end ?_
   refine ae [(4, .slice (some ⟨b3_2, 0, none⟩) (List.length l5_5) ((c.words).toNat))] ?_
   refine at_then_normal ?_
   refine at_ret kf ?_
   obtain rfl := someE H
   refine at_backR [.slice (some ⟨b3_2, 0, none⟩) (List.length l5_5) ((c.words).toNat)] ((IntsA (some ⟨b3_2, 0, none⟩) ((c.words).toNat) l5_5) :: Γ) (rs := [.tmp 4]) kf (.cons (.tmp kf) .nil) (fun w hw => (Sat.less (.take .here (.drop .here .refl)) hw)) ?_
   exact ⟨some ⟨b3_2, 0, none⟩, ((c.words).toNat), rfl, rfl⟩
 ·refine ar (id := 1) 8 ?_
  refine sp 7 (.int .i64 line) ?_
  refine sp 8 (.bool (decide (line < (0 : Int)))) ?_
  rcases Bool.eq_false_or_eq_true (decide (line < (0 : Int))) with h2 | h2
  ·replace H := bifT H h2
   refine sr 9 (.bool true) (run_eq (v := .bool (decide (line < (0 : Int)))) (fun _ => kf) (congrArg Value.bool h2)) ?_
   refine sa 10 ?_
   refine sa 11 ?_
   refine sa 12 ?_
   refine sa 13 ?_
   refine sp 14 (.bool true) ?_
   refine ops_end ?_
   refine ae [(1, .int .i64 line), (2, .pointer (some ⟨b0_0, 0, none⟩)), (14, .bool true)] ?_
   refine at_round_normal ?_
   exact at_join_mk [(1, .int .i64 line), (2, .pointer (some ⟨b0_0, 0, none⟩)), (14, .bool true)] ((Asn.own b0_0 (.cells #[.int .i64 c.nodes, .int .i64 c.lines, .int .i64 c.words, .int .i64 c.sets, .int .i64 c.ways, .int .i64 c.out, .int .i64 c.inn, .slice ca (List.length c.init) ccap] 26 (0, 0))) :: Γ) ⟨kf, kf, kf, trivial⟩ (fun w hw => (Sat.less (.take .here .refl) hw)) ⟨true, H, rfl, rfl⟩
  ·replace H := bifF H h2
   refine sr 9 (.bool false) (run_eq (v := .bool (decide (line < (0 : Int)))) (fun _ => kf) (congrArg Value.bool h2)) ?_
   refine sp 10 (.int .i64 line) ?_
   refine sp 11 (.pointer (some ⟨b0_0, 1, none⟩)) ?_
   refine sl 12 (.int .i64 c.lines) (load1 (off := 1) (fun _ => kf) (holds_own .here) kf) ?_
   refine sp 13 (.bool (decide (c.lines ≤ line))) ?_
   refine sp 14 (.bool (decide (c.lines ≤ line))) ?_
   refine ops_end ?_
   refine ae [(1, .int .i64 line), (2, .pointer (some ⟨b0_0, 0, none⟩)), (14, .bool (decide (c.lines ≤ line)))] ?_
   refine at_round_normal ?_
   exact at_join_mk [(1, .int .i64 line), (2, .pointer (some ⟨b0_0, 0, none⟩)), (14, .bool (decide (c.lines ≤ line)))] ((Asn.own b0_0 (.cells #[.int .i64 c.nodes, .int .i64 c.lines, .int .i64 c.words, .int .i64 c.sets, .int .i64 c.ways, .int .i64 c.out, .int .i64 c.inn, .slice ca (List.length c.init) ccap] 26 (0, 0))) :: Γ) ⟨kf, kf, kf, trivial⟩ (fun w hw => (Sat.less (.take .here .refl) hw)) ⟨decide (c.lines ≤ line), H, rfl, rfl⟩
def plconfigS (s : SetupS) : Option (CfgS) :=
 (withinS s.nodes (4 : Int)).bind fun y1_2 => (withinS s.lines (4 : Int)).bind fun y1_6 => (withinS s.words (2 : Int)).bind fun y1_10 => (withinS s.sets (2 : Int)).bind fun y1_14 => (withinS s.ways (2 : Int)).bind fun y1_18 => (withinS s.out (3 : Int)).bind fun y1_22 => (withinS s.inn (3 : Int)).bind fun y1_26 => letP (wr ((wr ((1 : Int) + y1_6)) * (wr ((1 : Int) + y1_10)))) fun u2_6 => (cutS s.init u2_6).bind fun y2_7 => some (⟨wr ((1 : Int) + y1_2), wr ((1 : Int) + y1_6), wr ((1 : Int) + y1_10), wr ((1 : Int) + y1_14), wr ((1 : Int) + y1_18), wr ((1 : Int) + y1_22), wr ((1 : Int) + y1_26), y2_7⟩ : CfgS)
noncomputable def C7 (p : List Nat) : Code := codeAt (bodyOf Try.f7) p
set_option maxRecDepth 100000 in
set_option maxHeartbeats 8000000 in
theorem PlConfigF_tr {W0 : World} {Γ : List Asn} (sa : Option Addr) (scap : Nat) (sa1 : Option Addr) (scap1 : Nat) (sa2 : Option Addr) (scap2 : Nat) (sa3 : Option Addr) (scap3 : Nat) (sa4 : Option Addr) (scap4 : Nat) (s : SetupS) (hrsa : Reads W0 Γ sa (ints s.init)) (hcsa : s.init.length ≤ scap) (hrsa1 : Reads W0 Γ sa1 (ints s.who)) (hcsa1 : s.who.length ≤ scap1) (hrsa2 : Reads W0 Γ sa2 (ints s.kinds)) (hcsa2 : s.kinds.length ≤ scap2) (hrsa3 : Reads W0 Γ sa3 (ints s.addrs)) (hcsa3 : s.addrs.length ≤ scap3) (hrsa4 : Reads W0 Γ sa4 (ints s.values)) (hcsa4 : s.values.length ≤ scap4) (y : CfgS) (H : plconfigS s = some y) : Tr Try.prog 7 #[.agg #[.int .i64 s.nodes, .int .i64 s.lines, .int .i64 s.words, .int .i64 s.sets, .int .i64 s.ways, .int .i64 s.out, .int .i64 s.inn, .slice sa (List.length s.init) scap, .slice sa1 (List.length s.who) scap1, .slice sa2 (List.length s.kinds) scap2, .slice sa3 (List.length s.addrs) scap3, .slice sa4 (List.length s.values) scap4]] W0 (Γ) (fun r Δ => ∃ (a0_0 : Option Addr) (c0_0 : Nat), r = .agg #[.int .i64 y.nodes, .int .i64 y.lines, .int .i64 y.words, .int .i64 y.sets, .int .i64 y.ways, .int .i64 y.out, .int .i64 y.inn, .slice a0_0 (List.length y.init) c0_0] ∧ Δ = (IntsA a0_0 c0_0 y.init) :: Γ) := by
 unfold plconfigS at H
 refine Tr.enter (fn := Try.f7) (c := C7 []) (args := [.agg #[.int .i64 s.nodes, .int .i64 s.lines, .int .i64 s.words, .int .i64 s.sets, .int .i64 s.ways, .int .i64 s.out, .int .i64 s.inn, .slice sa (List.length s.init) scap, .slice sa1 (List.length s.who) scap1, .slice sa2 (List.length s.kinds) scap2, .slice sa3 (List.length s.addrs) scap3, .slice sa4 (List.length s.values) scap4]]) 43 Try.func7 kf kf ?_
 refine ae [(0, .agg #[.int .i64 s.nodes, .int .i64 s.lines, .int .i64 s.words, .int .i64 s.sets, .int .i64 s.ways, .int .i64 s.out, .int .i64 s.inn, .slice sa (List.length s.init) scap, .slice sa1 (List.length s.who) scap1, .slice sa2 (List.length s.kinds) scap2, .slice sa3 (List.length s.addrs) scap3, .slice sa4 (List.length s.values) scap4])] ?_
 refine aq (x := C7 [0]) (y := C7 [1]) ?_
 refine ar (id := 0) 2 ?_
 refine s_step 1 kf kf (st_new (T := 24) (cells := #[.int .i64 s.nodes, .int .i64 s.lines, .int .i64 s.words, .int .i64 s.sets, .int .i64 s.ways, .int .i64 s.out, .int .i64 s.inn, .slice sa (List.length s.init) scap, .slice sa1 (List.length s.who) scap1, .slice sa2 (List.length s.kinds) scap2, .slice sa3 (List.length s.addrs) scap3, .slice sa4 (List.length s.values) scap4]) (fun a => .pointer (some a)) (fun _ => kf)) ?_
 rintro _ _ ⟨b0_0, rfl, rfl⟩
 refine s_step 2 kf kf (st_new (T := 26) (cells := #[.int .i64 (0), .int .i64 (0), .int .i64 (0), .int .i64 (0), .int .i64 (0), .int .i64 (0), .int .i64 (0), .slice none 0 0]) (fun a => .pointer (some a)) (fun _ => kf)) ?_
 rintro _ _ ⟨b0_1, rfl, rfl⟩
 refine ops_end ?_
 refine ae [(1, .pointer (some ⟨b0_0, 0, none⟩)), (2, .pointer (some ⟨b0_1, 0, none⟩))] ?_
 refine at_then_normal ?_
 refine aq (x := C7 [1,0]) (y := C7 [1,1]) ?_
 refine at_region_draw (id := 1) kf kf ?_
 refine dp 0 4 (.pointer (some ⟨b0_0, 0, none⟩)) ?_
 refine dl 1 5 (.int .i64 s.nodes) (load1 (off := 0) (fun _ => kf) (holds_own (.there .here)) kf) ?_
 obtain ⟨y1_2, hy1_2, H⟩ := bindE H
 refine d_quiet 2 6 (.int .i64 y1_2) 9 #[.int .i64 s.nodes, .int .i64 (4)] kf kf kf (fun _ => kf) (fun _ => (WithinF_tr s.nodes (4 : Int) y1_2 hy1_2)) ?_
 refine dp 3 7 (.int .i64 (wr ((1 : Int) + y1_2))) ?_
 refine dp 4 8 (.pointer (some ⟨b0_0, 1, none⟩)) ?_
 refine dl 5 9 (.int .i64 s.lines) (load1 (off := 1) (fun _ => kf) (holds_own (.there .here)) kf) ?_
 obtain ⟨y1_6, hy1_6, H⟩ := bindE H
 refine d_quiet 6 10 (.int .i64 y1_6) 9 #[.int .i64 s.lines, .int .i64 (4)] kf kf kf (fun _ => kf) (fun _ => (WithinF_tr s.lines (4 : Int) y1_6 hy1_6)) ?_
 refine dp 7 11 (.int .i64 (wr ((1 : Int) + y1_6))) ?_
 refine dp 8 12 (.pointer (some ⟨b0_0, 2, none⟩)) ?_
 refine dl 9 13 (.int .i64 s.words) (load1 (off := 2) (fun _ => kf) (holds_own (.there .here)) kf) ?_
 obtain ⟨y1_10, hy1_10, H⟩ := bindE H
 refine d_quiet 10 14 (.int .i64 y1_10) 9 #[.int .i64 s.words, .int .i64 (2)] kf kf kf (fun _ => kf) (fun _ => (WithinF_tr s.words (2 : Int) y1_10 hy1_10)) ?_
 refine dp 11 15 (.int .i64 (wr ((1 : Int) + y1_10))) ?_
 refine dp 12 16 (.pointer (some ⟨b0_0, 3, none⟩)) ?_
 refine dl 13 17 (.int .i64 s.sets) (load1 (off := 3) (fun _ => kf) (holds_own (.there .here)) kf) ?_
 obtain ⟨y1_14, hy1_14, H⟩ := bindE H
 refine d_quiet 14 18 (.int .i64 y1_14) 9 #[.int .i64 s.sets, .int .i64 (2)] kf kf kf (fun _ => kf) (fun _ => (WithinF_tr s.sets (2 : Int) y1_14 hy1_14)) ?_
 refine dp 15 19 (.int .i64 (wr ((1 : Int) + y1_14))) ?_
 refine dp 16 20 (.pointer (some ⟨b0_0, 4, none⟩)) ?_
 refine dl 17 21 (.int .i64 s.ways) (load1 (off := 4) (fun _ => kf) (holds_own (.there .here)) kf) ?_
 obtain ⟨y1_18, hy1_18, H⟩ := bindE H
 refine d_quiet 18 22 (.int .i64 y1_18) 9 #[.int .i64 s.ways, .int .i64 (2)] kf kf kf (fun _ => kf) (fun _ => (WithinF_tr s.ways (2 : Int) y1_18 hy1_18)) ?_
 refine dp 19 23 (.int .i64 (wr ((1 : Int) + y1_18))) ?_
 refine dp 20 24 (.pointer (some ⟨b0_0, 5, none⟩)) ?_
 refine dl 21 25 (.int .i64 s.out) (load1 (off := 5) (fun _ => kf) (holds_own (.there .here)) kf) ?_
 obtain ⟨y1_22, hy1_22, H⟩ := bindE H
 refine d_quiet 22 26 (.int .i64 y1_22) 9 #[.int .i64 s.out, .int .i64 (3)] kf kf kf (fun _ => kf) (fun _ => (WithinF_tr s.out (3 : Int) y1_22 hy1_22)) ?_
 refine dp 23 27 (.int .i64 (wr ((1 : Int) + y1_22))) ?_
 refine dp 24 28 (.pointer (some ⟨b0_0, 6, none⟩)) ?_
 refine dl 25 29 (.int .i64 s.inn) (load1 (off := 6) (fun _ => kf) (holds_own (.there .here)) kf) ?_
 obtain ⟨y1_26, hy1_26, H⟩ := bindE H
 refine d_quiet 26 30 (.int .i64 y1_26) 9 #[.int .i64 s.inn, .int .i64 (3)] kf kf kf (fun _ => kf) (fun _ => (WithinF_tr s.inn (3 : Int) y1_26 hy1_26)) ?_
 refine dp 27 31 (.int .i64 (wr ((1 : Int) + y1_26))) ?_
 refine dp 28 32 (.agg #[.int .i64 (wr ((1 : Int) + y1_2)), .int .i64 (wr ((1 : Int) + y1_6)), .int .i64 (wr ((1 : Int) + y1_10)), .int .i64 (wr ((1 : Int) + y1_14)), .int .i64 (wr ((1 : Int) + y1_18)), .int .i64 (wr ((1 : Int) + y1_22)), .int .i64 (wr ((1 : Int) + y1_26)), .slice none 0 0]) ?_
 refine d_step 29 3 [] [28, 27, 26, 24, 23, 22, 20, 19, 18, 16, 15, 14, 12, 11, 10, 8, 7, 6, 4, 3, 2, 0] [25, 21, 17, 13, 9, 5, 1] kf kf kf (st_new (T := 26) (cells := #[.int .i64 (0), .int .i64 (0), .int .i64 (0), .int .i64 (0), .int .i64 (0), .int .i64 (0), .int .i64 (0), .slice none 0 0]) (fun a => .pointer (some a)) (fun _ => kf)) ?_
 rintro _ _ ⟨b1_29, rfl, rfl⟩
 refine ⟨(stable_cons 25 29 (.int .i64 s.inn) kf kf kf (load1 (off := 6) (fun _ => kf) (holds_own (.there (.there .here))) kf) (stable_cons 21 25 (.int .i64 s.out) kf kf kf (load1 (off := 5) (fun _ => kf) (holds_own (.there (.there .here))) kf) (stable_cons 17 21 (.int .i64 s.ways) kf kf kf (load1 (off := 4) (fun _ => kf) (holds_own (.there (.there .here))) kf) (stable_cons 13 17 (.int .i64 s.sets) kf kf kf (load1 (off := 3) (fun _ => kf) (holds_own (.there (.there .here))) kf) (stable_cons 9 13 (.int .i64 s.words) kf kf kf (load1 (off := 2) (fun _ => kf) (holds_own (.there (.there .here))) kf) (stable_cons 5 9 (.int .i64 s.lines) kf kf kf (load1 (off := 1) (fun _ => kf) (holds_own (.there (.there .here))) kf) (stable_cons 1 5 (.int .i64 s.nodes) kf kf kf (load1 (off := 0) (fun _ => kf) (holds_own (.there (.there .here))) kf) stable_nil))))))), ?_⟩
 refine d_do 30 [29, 28, 26, 0, 1, 2, 3, 4, 5, 6, 7, 8, 9, 10, 11, 12, 13, 14, 15, 16, 17, 18, 19, 20, 21, 22, 23, 24, 25, 27] [] [] kf kf kf (st_store (off := 0) (vs := [.int .i64 (wr ((1 : Int) + y1_2)), .int .i64 (wr ((1 : Int) + y1_6)), .int .i64 (wr ((1 : Int) + y1_10)), .int .i64 (wr ((1 : Int) + y1_14)), .int .i64 (wr ((1 : Int) + y1_18)), .int .i64 (wr ((1 : Int) + y1_22)), .int .i64 (wr ((1 : Int) + y1_26)), .slice none 0 0]) (c' := #[.int .i64 (wr ((1 : Int) + y1_2)), .int .i64 (wr ((1 : Int) + y1_6)), .int .i64 (wr ((1 : Int) + y1_10)), .int .i64 (wr ((1 : Int) + y1_14)), .int .i64 (wr ((1 : Int) + y1_18)), .int .i64 (wr ((1 : Int) + y1_22)), .int .i64 (wr ((1 : Int) + y1_26)), .slice none 0 0]) (fun _ => kf) .here kf kf kf) ?_
 rintro _ _ ⟨rfl, rfl⟩
 refine ⟨stable_nil, ?_⟩
 refine draw_end kf ?_
 refine ae [(1, .pointer (some ⟨b0_0, 0, none⟩)), (2, .pointer (some ⟨b0_1, 0, none⟩)), (3, .pointer (some ⟨b1_29, 0, none⟩))] ?_
 refine at_then_normal ?_
 refine aq (x := C7 [1,1,0]) (y := C7 [1,1,1]) ?_
 refine ar (id := 2) 10 ?_
 refine sp 33 (.pointer (some ⟨b0_0, 7, none⟩)) ?_
 refine sl 34 (.slice sa (List.length s.init) scap) (load1 (off := 7) (fun _ => kf) (holds_own (.there (.there .here))) kf) ?_
 refine sp 35 (.pointer (some ⟨b1_29, 1, none⟩)) ?_
 refine sl 36 (.int .i64 (wr ((1 : Int) + y1_6))) (load1 (off := 1) (fun _ => kf) (holds_own .here) kf) ?_
 refine sp 37 (.pointer (some ⟨b1_29, 2, none⟩)) ?_
 refine sl 38 (.int .i64 (wr ((1 : Int) + y1_10))) (load1 (off := 2) (fun _ => kf) (holds_own .here) kf) ?_
 obtain ⟨u2_6, hu2_6, H⟩ := letE H
 refine sr 39 (.int .i64 u2_6) (run_eq (v := .int .i64 (wr ((wr ((1 : Int) + y1_6)) * (wr ((1 : Int) + y1_10))))) (fun _ => kf) (by rw [hu2_6])) ?_
 obtain ⟨y2_7, hy2_7, H⟩ := bindE H
 refine s_call 40 21 #[.slice sa (List.length s.init) scap, .int .i64 u2_6] kf kf (fun _ => kf) (CutF_tr sa scap s.init u2_6 (Reads.conv (fun w hw => hw.less (.drop .here (.drop .here (.drop .here .refl)))) hrsa) hcsa y2_7 hy2_7) ?_
 rintro _ _ ⟨a2_7_00, c2_7_00, rfl, rfl⟩
 refine sp 41 (.pointer (some ⟨b1_29, 7, none⟩)) ?_
 refine s_do kf kf (st_store (off := 7) (vs := [.slice a2_7_00 (List.length y2_7) c2_7_00]) (c' := #[.int .i64 (wr ((1 : Int) + y1_2)), .int .i64 (wr ((1 : Int) + y1_6)), .int .i64 (wr ((1 : Int) + y1_10)), .int .i64 (wr ((1 : Int) + y1_14)), .int .i64 (wr ((1 : Int) + y1_18)), .int .i64 (wr ((1 : Int) + y1_22)), .int .i64 (wr ((1 : Int) + y1_26)), .slice a2_7_00 (List.length y2_7) c2_7_00]) (fun _ => kf) (.there .here) kf kf kf) ?_
 rintro _ _ ⟨rfl, rfl⟩
 refine ops_end ?_
 refine ae [(2, .pointer (some ⟨b0_1, 0, none⟩)), (3, .pointer (some ⟨b1_29, 0, none⟩))] ?_
 refine at_then_normal ?_
 refine aq (x := C7 [1,1,1,0]) (y := C7 [1,1,1,1]) ?_
 refine ar (id := 3) 2 ?_
 refine sl 42 (.agg #[.int .i64 (wr ((1 : Int) + y1_2)), .int .i64 (wr ((1 : Int) + y1_6)), .int .i64 (wr ((1 : Int) + y1_10)), .int .i64 (wr ((1 : Int) + y1_14)), .int .i64 (wr ((1 : Int) + y1_18)), .int .i64 (wr ((1 : Int) + y1_22)), .int .i64 (wr ((1 : Int) + y1_26)), .slice a2_7_00 (List.length y2_7) c2_7_00]) (loadN (off := 0) (vs := [.int .i64 (wr ((1 : Int) + y1_2)), .int .i64 (wr ((1 : Int) + y1_6)), .int .i64 (wr ((1 : Int) + y1_10)), .int .i64 (wr ((1 : Int) + y1_14)), .int .i64 (wr ((1 : Int) + y1_18)), .int .i64 (wr ((1 : Int) + y1_22)), .int .i64 (wr ((1 : Int) + y1_26)), .slice a2_7_00 (List.length y2_7) c2_7_00]) 8 (fun _ => kf) (holds_own .here) rfl (by exact ⟨rfl, rfl, rfl, rfl, rfl, rfl, rfl, rfl, trivial⟩)) ?_
 refine s_do kf kf (st_store (off := 0) (vs := [.int .i64 (wr ((1 : Int) + y1_2)), .int .i64 (wr ((1 : Int) + y1_6)), .int .i64 (wr ((1 : Int) + y1_10)), .int .i64 (wr ((1 : Int) + y1_14)), .int .i64 (wr ((1 : Int) + y1_18)), .int .i64 (wr ((1 : Int) + y1_22)), .int .i64 (wr ((1 : Int) + y1_26)), .slice a2_7_00 (List.length y2_7) c2_7_00]) (c' := #[.int .i64 (wr ((1 : Int) + y1_2)), .int .i64 (wr ((1 : Int) + y1_6)), .int .i64 (wr ((1 : Int) + y1_10)), .int .i64 (wr ((1 : Int) + y1_14)), .int .i64 (wr ((1 : Int) + y1_18)), .int .i64 (wr ((1 : Int) + y1_22)), .int .i64 (wr ((1 : Int) + y1_26)), .slice a2_7_00 (List.length y2_7) c2_7_00]) (fun _ => kf) (.there (.there .here)) kf kf kf) ?_
 rintro _ _ ⟨rfl, rfl⟩
 refine ops_end ?_
 refine ae [(2, .pointer (some ⟨b0_1, 0, none⟩))] ?_
 refine at_then_normal ?_
 refine at_ret kf ?_
 obtain rfl := someE H
 refine at_backR [.agg #[.int .i64 (wr ((1 : Int) + y1_2)), .int .i64 (wr ((1 : Int) + y1_6)), .int .i64 (wr ((1 : Int) + y1_10)), .int .i64 (wr ((1 : Int) + y1_14)), .int .i64 (wr ((1 : Int) + y1_18)), .int .i64 (wr ((1 : Int) + y1_22)), .int .i64 (wr ((1 : Int) + y1_26)), .slice a2_7_00 (List.length y2_7) c2_7_00]] ((IntsA a2_7_00 c2_7_00 y2_7) :: Γ) (rs := [.cell 2 26]) kf (.cons (.cell kf (retN (off := 0) (vs := [.int .i64 (wr ((1 : Int) + y1_2)), .int .i64 (wr ((1 : Int) + y1_6)), .int .i64 (wr ((1 : Int) + y1_10)), .int .i64 (wr ((1 : Int) + y1_14)), .int .i64 (wr ((1 : Int) + y1_18)), .int .i64 (wr ((1 : Int) + y1_22)), .int .i64 (wr ((1 : Int) + y1_26)), .slice a2_7_00 (List.length y2_7) c2_7_00]) 8 (fun _ => kf) (holds_own .here) rfl (by exact ⟨rfl, rfl, rfl, rfl, rfl, rfl, rfl, rfl, trivial⟩))) .nil) (fun w hw => (Sat.less (.take (.there (.there .here)) (.drop .here (.drop .here (.drop .here .refl)))) hw)) ?_
 exact ⟨a2_7_00, c2_7_00, rfl, rfl⟩
end Go.Proofs.Ytcigheahollkcaa
