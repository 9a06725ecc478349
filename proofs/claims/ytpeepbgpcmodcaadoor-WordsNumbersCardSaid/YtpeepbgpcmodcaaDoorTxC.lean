/-
  Words: what the library's functions answer.
-/
import Derived.Test.YtpeepbgpcmodcaaDoorTxB
import Derived.Test.YtpeepbgpcmodcaaDoorShelf
set_option maxRecDepth 100000
namespace Go.Tx
open Go Go.RowKit Go.Sx Go.Proofs
theorem laid_cell {W : World} (h : LaidG W) {g : Nat} {xs : List Value} {t : TypeId} (hm : (g, (Value.agg xs.toArray, t)) ∈ lz) (j : Nat) : W.cell? ⟨g, j, none⟩ = xs[j]? := by
  obtain ⟨ty, hz⟩ := h _ hm
  have hz : W.heap[g]? = some (.cells xs.toArray ty) := hz
  simp [World.cell?, hz]
theorem u8tabs {W : World} (h : LaidG W) : Lib.Utf8Tabs 0 1 W := by
  refine ⟨fun c hc => ?_, fun i hi => ⟨?_, ?_⟩⟩
  · rw [laid_cell h (g := 0) (xs := (List.range 256).map fun c => Value.int .u8 (Lib.firstT c)) (t := 0) (by unfold lz; exact .head _)]
    simp [hc]
  · rw [laid_cell h (g := 1) (xs := (List.range 32).map fun c => Value.int .u8 (if c % 2 = 0 then Lib.accLo (c / 2) else Lib.accHi (c / 2))) (t := 0) (by unfold lz; exact .tail _ (.head _))]
    rw [List.getElem?_map, List.getElem?_range (by omega)]
    simp
  · rw [laid_cell h (g := 1) (xs := (List.range 32).map fun c => Value.int .u8 (if c % 2 = 0 then Lib.accLo (c / 2) else Lib.accHi (c / 2))) (t := 0) (by unfold lz; exact .tail _ (.head _))]
    rw [List.getElem?_map, List.getElem?_range (by omega)]
    have e1 : (2 * i + 1) % 2 = 1 := by omega
    have e2 : (2 * i + 1) / 2 = i := by omega
    simp [e1, e2]
theorem p10tab {W : World} (h : LaidG W) : Lib.TabIs P W "internal/strconv.uint64pow10" .u64 Lib.pow10Tab := by
  obtain ⟨ty, hz⟩ := h (2, (.agg (Lib.pow10Tab.map fun z => Value.int .u64 z).toArray, 0)) (by unfold lz; exact .tail _ (.tail _ (.head _)))
  have hz : W.heap[2]? = some (.cells (Lib.pow10Tab.map fun z => Value.int .u64 z).toArray ty) := hz
  have hg : P.globalNamed "internal/strconv.uint64pow10" = some 2 := by kernel_rfl
  unfold Lib.TabIs World.var?
  rw [hg]
  simp only [Option.bind_some, hz]
theorem dec_gives (s : ByteArray) : Gives P 32 #[.string s] (.tuple #[.int .i32 (Lib.decodeGo s).1, .int .i64 (Lib.decodeGo s).2]) :=
  gives_of_calls (by kernel_rfl) fun w hz => Tryd.utf8_DecodeRuneInString s w (u8tabs hz)
theorem itoa_gives (n : Int) (h0 : -9223372036854775808 ≤ n) (h1 : n ≤ 9223372036854775807) : Gives P 29 #[.int .i64 n] (.string ⟨(Lib.itoa n).toArray⟩) :=
  gives_of_calls (by kernel_rfl) fun w hz => (Tryd.strconv_Itoa n h0 h1 w (p10tab hz)).mono (by
    rintro e w' ⟨he, k, os, rfl⟩
    refine ⟨he, rfl, rfl, rfl, by simp [Go.Sort.grow, World.drewN], fun j hj => ?_⟩
    show ((w.drewN k).heap ++ os)[j]? = w.heap[j]?
    rw [Array.getElem?_append_left (show j < (w.drewN k).heap.size from hj)]
    rfl)
def sP (p : ByteArray → Prop) : List Value → Prop
  | [.string s] => p s
  | _ => False
def sV (f : ByteArray → Value) : List Value → Value
  | [.string s] => f s
  | _ => undef
theorem s_gives {g : FuncId} {p : ByteArray → Prop} {f : ByteArray → Value} (h : ∀ s, p s → Gives P g #[.string s] (f s)) (args : List Value) (hp : sP p args) : Gives P g args.toArray (sV f args) := by
  unfold sP at hp
  split at hp
  · exact h _ hp
  · exact hp.elim
noncomputable def dec_c : Ctr P := ⟨32, sP fun _ => True, sV fun s => .tuple #[.int .i32 (Lib.decodeGo s).1, .int .i64 (Lib.decodeGo s).2], s_gives fun s _ => dec_gives s⟩
noncomputable def Z2 : Env P := ⟨⟨[dec_c], [], []⟩, [], 10, []⟩
def c1 (s : ByteArray) : Int := (Lib.decodeGo s).1
def n1 (s : ByteArray) : Int := (Lib.decodeGo s).2
def bd (s : ByteArray) : Bool := (c1 s == 65533) && (n1 s == 1)
theorem nx0_leaf (s : ByteArray)  (q0 : (c1 s == 65533) = true) : Gives P 24 #[.string s] (.tuple #[.int .i32 (c1 s), .int .i64 (n1 s), .bool (bd s)]) := by
  refine gives_of_run (E := Z2) (lv := 1) (ds := (.b true :: [])) (v := .tuple #[.int .i32 (c1 s), .int .i64 (n1 s), .bool (n1 s == 1)]) (ps := [sP (fun _ => True) [.string s], (c1 s == 65533) = true]) mo (by kernel_rfl) (ps_cons trivial (ps_cons q0 ps_nil)) ?_
  show _ = Value.tuple #[.int .i32 (c1 s), .int .i64 (n1 s), .bool (bd s)]
  unfold bd
  rw [q0]
  rfl
theorem nx1_leaf (s : ByteArray)  (q0 : (c1 s == 65533) = false) : Gives P 24 #[.string s] (.tuple #[.int .i32 (c1 s), .int .i64 (n1 s), .bool (bd s)]) := by
  refine gives_of_run (E := Z2) (lv := 1) (ds := (.b false :: [])) (v := .tuple #[.int .i32 (c1 s), .int .i64 (n1 s), .bool false]) (ps := [sP (fun _ => True) [.string s], (c1 s == 65533) = false]) mo (by kernel_rfl) (ps_cons trivial (ps_cons q0 ps_nil)) ?_
  show _ = Value.tuple #[.int .i32 (c1 s), .int .i64 (n1 s), .bool (bd s)]
  unfold bd
  rw [q0]
  rfl
theorem nx_ok (s : ByteArray)  : Gives P 24 #[.string s] (.tuple #[.int .i32 (c1 s), .int .i64 (n1 s), .bool (bd s)]) := by
  cases q0 : (c1 s == 65533) with
  | true =>
    exact nx0_leaf s  q0
  | false =>
    exact nx1_leaf s  q0
noncomputable def nx_c : Ctr P := ⟨24, sP fun _ => True, sV fun s => .tuple #[.int .i32 (c1 s), .int .i64 (n1 s), .bool (bd s)], s_gives fun s _ => nx_ok s⟩
def iP : List Value → Prop
  | [.int .i64 n] => -9223372036854775808 ≤ n ∧ n ≤ 9223372036854775807
  | _ => False
def iV : List Value → Value
  | [.int .i64 n] => .string ⟨(Lib.itoa n).toArray⟩
  | _ => undef
theorem it_gives (args : List Value) (hp : iP args) : Gives P 29 args.toArray (iV args) := by
  unfold iP at hp
  split at hp
  · exact itoa_gives _ hp.1 hp.2
  · exact hp.elim
noncomputable def it_c : Ctr P := ⟨29, iP, iV, it_gives⟩
noncomputable def Z3 : Env P := ⟨⟨[it_c], [], []⟩, [], 10, []⟩
def ito (n : Int) : ByteArray := ⟨(Lib.itoa n).toArray⟩
theorem wp0_leaf (n : Int) (h : -9223372036854775808 ≤ n ∧ n ≤ 9223372036854775807)  : Gives P 18 #[.int .i64 n] (.string (ito n)) := by
  refine gives_of_run (E := Z3) (lv := 1) (ds := []) (v := .string (ito n)) (ps := [iP [.int .i64 n]]) mo (by kernel_rfl) (ps_cons h ps_nil) ?_
  rfl
theorem wp_ok (n : Int) (h : -9223372036854775808 ≤ n ∧ n ≤ 9223372036854775807) : Gives P 18 #[.int .i64 n] (.string (ito n)) := by
  exact wp0_leaf n h 
end Go.Tx
