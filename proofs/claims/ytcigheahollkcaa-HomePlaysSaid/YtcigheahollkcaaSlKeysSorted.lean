/- slices.Sorted(maps.Keys(m)) at a map from numbers: told as assertions.
   Conditions: none. -/
import Derived.Test.YtcigheahollkcaaSlSorts
import Derived.Test.YtcigheahollkcaaSlTurn
namespace Go.Proofs.Ytcigheahollkcaa
open Go Go.RowKit
section
variable {W0 : World} {Γ Γ' : List Asn}
def keyL (x : KV) : Lit × DataW Unit := (.int .i64 x.key, .nil)
theorem key_reads {P : Program} {k : TypeId} (hk : P.underlying k = some (.int .i64)) (x : KV) (hx : inR x.key ∧ x.key ≠ -9223372036854775808) : Go.WideElems.rd P k (fun _ => some ((.nil : DataW Unit), [])) (kvE x) = some (keyL x) := by
  have hw : (Lit.int .i64 x.key).wf = true := by
    obtain ⟨h1, _⟩ := hx
    unfold inR at h1
    show (decide (IntKind.i64.min ≤ x.key) && decide (x.key ≤ IntKind.i64.max)) = true
    rw [Bool.and_eq_true]
    exact ⟨decide_eq_true (by show (-9223372036854775808 : Int) ≤ _; omega), decide_eq_true (by show _ ≤ (9223372036854775807 : Int); omega)⟩
  have : keyOf P k (Value.int .i64 x.key) = some (.int .i64 x.key) := by simp [keyOf, hk, mapKey, hw]
  exact Go.WideElems.rd_mk (R := fun _ => some ((.nil : DataW Unit), [])) (key := .int .i64 x.key) (val := x.val) (yv := (.nil, [])) (born := x.born) this rfl
theorem map_owned {P : Program} {k : TypeId} {w : World} {b : Nat} {kvs : List KV} {clock : Nat} (hk : P.underlying k = some (.int .i64)) (hb : w.heap[b]? = some (mapO kvs clock)) (hs : stamps kvs clock)
    (hl : kvs.length ≤ 1099511627776) (hn : (kvs.map KV.key).Nodup) (hr : ∀ x ∈ kvs, inR x.key ∧ x.key ≠ -9223372036854775808) :
    w.ownsMap P k (fun _ => some ((.nil : DataW Unit), [])) b kvs.length (.map ((kvs.map keyL).foldr DataW.insert [])) := by
  refine ⟨(kvs.map kvE).toArray, clock, hb, ⟨?_, ⟨?_, ?_, ?_⟩, ?_⟩, by simp, ?_⟩
  · simp [maxLen]; omega
  · intro x hx
    obtain ⟨y, hy, rfl⟩ := List.mem_map.1 (by simpa using hx)
    exact hs.1 y hy
  · simpa [Function.comp_def, kvE] using hs.2
  · have : (kvs.map kvE).map (·.key) = (kvs.map KV.key).map (Value.int .i64) := by simp [Function.comp_def, kvE]
    show (((kvs.map kvE).toArray.toList).map (·.key)).Nodup
    rw [List.toList_toArray, this]
    exact hn.map _ (fun a b hab h => hab (by injection h))
  · intro x hx
    obtain ⟨y, hy, rfl⟩ := List.mem_map.1 (by simpa using hx)
    exact ⟨_, key_reads hk y (hr y hy)⟩
  · congr 2
    rw [List.toList_toArray, List.map_map]
    refine List.map_congr_left fun x hx => ?_
    exact (Go.WideElems.rg_of (key_reads hk x (hr x hx))).symm
theorem keys_perm {kvs : List KV} : (intKeys (.map ((kvs.map keyL).foldr DataW.insert []) : DataW Unit)).Perm (kvs.map KV.key) := by
  have h := (Go.WideShapes.sorted_perm (kvs.map keyL)).map (fun p : Lit × DataW Unit => Go.intOf p.1)
  rw [List.map_map] at h
  exact h
theorem sorts_ok (m : Nat) : AnyZI.SortsIn Try.prog laySorted_ren Fence.wide m :=
  ⟨fun blk off cap ss W hH hblk hsz => callsIn_wide.2 (AnyM.slices_Sort_int laySort blk off cap ss W hH hblk hsz), fun p cap W => callsIn_wide.2 (AnyM.slices_Sort_int_none laySort p cap W)⟩
theorem keysK_tr {mb : Option Nat} : Tr Try.prog 54 #[.map mb] W0 Γ (fun r Δ => ∃ nb : Nat, r = .func (.func 58) #[] #[.pointer (some ⟨nb, 0, none⟩)] ∧ Δ = Asn.own nb (.cells #[.map mb] 75 (0, 0)) :: Γ) := by
  intro w hw
  refine (callsIn_wide.1 (AnyZI.keys_in layKeys Fence.wide 5 trivial rfl mb w)).mono ?_
  rintro e w' ⟨rfl, rfl⟩
  exact ⟨_, _, rfl, ⟨_, rfl, rfl⟩, hw.alloc _⟩
theorem sortedK_tr {b nb : Nat} {T : TypeId} {l : List (Int × Value)} (hl : l.length ≤ 1099511627776) (hn : (l.map Prod.fst).Nodup) (hk : ∀ p ∈ l, inR p.1 ∧ p.1 ≠ -9223372036854775808) :
    Tr Try.prog 53 #[.func (.func 58) #[] #[.pointer (some ⟨nb, 0, none⟩)]] W0 (Asn.own nb (.cells #[.map (some b)] T (0, 0)) :: KMapA b l :: Γ)
      (fun r Δ => ∃ a cap, r = .slice a (srt (l.map Prod.fst)).length cap ∧ Δ = RowsA 1 a cap (ints (srt (l.map Prod.fst))) :: Asn.own nb (.cells #[.map (some b)] T (0, 0)) :: KMapA b l :: Γ) := by
  intro w hw
  have hnb := hw.own_at
  obtain ⟨kvs, clock, rfl, hs, h1⟩ := KMapA.of (hw.pull (.there .here))
  have hb := h1.own_at
  have hfst : (kvs.map pairKV).map Prod.fst = kvs.map KV.key := by simp [Function.comp_def, pairKV]
  rw [hfst] at hn ⊢
  have hlk : kvs.length ≤ 1099511627776 := by simpa using hl
  have hkk : ∀ x ∈ kvs, inR x.key ∧ x.key ≠ -9223372036854775808 := fun x hx => hk (pairKV x) (List.mem_map_of_mem hx)
  have hown := map_owned (P := Try.prog) (k := 3) Try.underlying3 hb hs hlk hn hkk
  have hsz : Go.Maps.size (.map ((kvs.map keyL).foldr DataW.insert []) : DataW Unit) = kvs.length := by
    show ((kvs.map keyL).foldr DataW.insert []).length = _
    rw [(Go.WideShapes.sorted_perm (kvs.map keyL)).length_eq, List.length_map]
  have hseq : SeqGives Fence.wide 2 Try.prog 58 #[.pointer (some ⟨nb, 0, none⟩)] encZ (fun ss => ss.Perm (intKeys (.map ((kvs.map keyL).foldr DataW.insert []) : DataW Unit))) kvs.length w := by
    rw [← hsz]
    exact AnyZI.keys_gives (ρ := layKeys_ren) { layKeys with } Fence.wide _ trivial rfl (by omega) nb b _ _ w (Array.getElem?_eq_some_iff.1 hnb).1 (by simp [World.cell?, hnb]) hown
  have cS := AnyZI.sorted_in laySorted Fence.wide 5 trivial trivial trivial trivial rfl (by omega) (sorts_ok _) (enters_of Try.func57 (by kernel_rfl) rfl) 58 #[.pointer (some ⟨nb, 0, none⟩)] trivial (enters_of Try.func58 (by kernel_rfl) rfl) _ kvs.length (by unfold maxLen; omega) (by omega) _ hseq
  refine (callsIn_wide.1 cS).mono ?_
  rintro e w' ⟨v, ss, rfl, hS, hrow, _, hB⟩
  obtain ⟨a, cap, rfl, hz⟩ := Sat.row (xs := srt ss) hw hB (by rw [srt_length]; exact hrow)
  have he : srt ss = srt (kvs.map KV.key) := mergeSort_of_perm_i (hS.trans keys_perm)
  rw [he] at hz ⊢
  exact ⟨_, _, rfl, ⟨a, cap, rfl, rfl⟩, hz⟩
theorem Pull.mid {A : Asn} {Γ : List Asn} : ∀ (L : List Asn), Pull (L ++ A :: Γ) A (L ++ Γ)
  | [] => .here
  | _ :: L => .there (Pull.mid L)
/-- The same at a map of lists. -/
theorem wvals_keys : ∀ {w : List (Int × List (Int × Int))} {ac : List (Option Addr × Nat)}, ac.length = w.length → (wvals w ac).map Prod.fst = w.map Prod.fst
  | [], [], _ => rfl
  | [], _ :: _, h => by simp at h
  | _ :: _, [], h => by simp at h
  | p :: w, a :: ac, h => by
    simp only [List.length_cons, Nat.add_right_cancel_iff] at h
    simp [wvals, wvals_keys h]
theorem sortedW_tr {b nb : Nat} {T : TypeId} {l : List (Int × List (Int × Int))} (hl : l.length ≤ 1099511627776) (hn : (l.map Prod.fst).Nodup) (hk : ∀ p ∈ l, inR p.1 ∧ p.1 ≠ -9223372036854775808) :
    Tr Try.prog 53 #[.func (.func 58) #[] #[.pointer (some ⟨nb, 0, none⟩)]] W0 (Asn.own nb (.cells #[.map (some b)] T (0, 0)) :: WMapA b l :: Γ)
      (fun r Δ => ∃ a cap, r = .slice a (srt (l.map Prod.fst)).length cap ∧ Δ = RowsA 1 a cap (ints (srt (l.map Prod.fst))) :: Asn.own nb (.cells #[.map (some b)] T (0, 0)) :: WMapA b l :: Γ) := by
  intro w hw
  obtain ⟨ac, h1⟩ := (hw.pull (.there .here)).ex_of
  obtain ⟨hac, h2⟩ := (h1.star_of).pure_of
  have hk2 := wvals_keys hac
  have hlen : (wvals l ac).length = l.length := by have := congrArg List.length hk2; simpa using this
  have h3 : Sat W0 (Asn.own nb (.cells #[.map (some b)] T (0, 0)) :: KMapA b (wvals l ac) :: (wrows l ac ++ Γ)) w := h2.pull (.there (Pull.mid _))
  have t := sortedK_tr (W0 := W0) (Γ := wrows l ac ++ Γ) (b := b) (nb := nb) (T := T) (l := wvals l ac) (by omega) (by rw [hk2]; exact hn) (fun p hp => by
    have : p.1 ∈ l.map Prod.fst := by rw [← hk2]; exact List.mem_map_of_mem hp
    obtain ⟨q, hq, he⟩ := List.mem_map.1 this
    rw [← he]; exact hk q hq) w h3
  rw [hk2] at t
  refine t.mono ?_
  rintro e w' ⟨r, Δ, rfl, ⟨a, cap, rfl, rfl⟩, hz⟩
  refine ⟨_, _, rfl, ⟨a, cap, rfl, rfl⟩, ?_⟩
  have h5 := (hz.pull (.there .here)).push (Γ := RowsA 1 a cap (ints (srt (l.map Prod.fst))) :: KMapA b (wvals l ac) :: (wrows l ac ++ Asn.own nb (.cells #[.map (some b)] T (0, 0)) :: Γ)) (.there (.there (Pull.mid _)))
  have h6 := h5.push (Γ := KMapA b (wvals l ac) :: (wrows l ac ++ RowsA 1 a cap (ints (srt (l.map Prod.fst))) :: Asn.own nb (.cells #[.map (some b)] T (0, 0)) :: Γ)) (.there (Pull.mid _))
  exact (Sat.ex_mk ac (Sat.star_mk (Sat.pure_mk hac h6))).push (A := WMapA b l) (.there (.there .here))
def KeysOk {α : Type} (l : List (Int × α)) : Prop := l.length ≤ 1099511627776 ∧ (l.map Prod.fst).Nodup ∧ ∀ p ∈ l, inR p.1 ∧ p.1 ≠ -9223372036854775808
instance {α : Type} (l : List (Int × α)) : Decidable (KeysOk l) := by unfold KeysOk; infer_instance
theorem sortedW_y {b nb : Nat} {T : TypeId} {l : List (Int × List (Int × Int))} {y : List Int} (h : KeysOk l) (hy : srt (l.map Prod.fst) = y) :
    Tr Try.prog 53 #[.func (.func 58) #[] #[.pointer (some ⟨nb, 0, none⟩)]] W0 (Asn.own nb (.cells #[.map (some b)] T (0, 0)) :: WMapA b l :: Γ)
      (fun r Δ => ∃ a cap, r = .slice a y.length cap ∧ Δ = RowsA 1 a cap (ints y) :: WMapA b l :: Γ) := by
  subst hy
  refine fun w hw => (sortedW_tr h.1 h.2.1 h.2.2 w hw).mono ?_
  rintro e w' ⟨r, Δ, rfl, ⟨a, cap, rfl, rfl⟩, hz⟩
  exact ⟨_, _, rfl, ⟨a, cap, rfl, rfl⟩, hz.drop (.there .here)⟩
end
end Go.Proofs.Ytcigheahollkcaa
