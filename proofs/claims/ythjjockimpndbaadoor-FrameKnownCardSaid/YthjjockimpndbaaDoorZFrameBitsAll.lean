/- FrameBits of every frame: right, with a wrong identifier, with too many bytes. Condition: errors.errorType is laid. -/
import Derived.Test.YthjjockimpndbaaDoorZFrameBitsW
namespace Go.Proofs.YthjjockimpndbaaDoor.frameBitsW
open Go.RowKit Go.Bus Go.Bus.farmK Go.Bus.bitK Go.Proofs.YthjjockimpndbaaDoor.lentK
set_option linter.unusedVariables false
theorem nil_ans {W w' : World} {E : Value} {e : Ending} (h : e = .returned (.tuple #[.slice none 0 0, E]) ∧ Below W.heap.size W w') : Ans W [] E e w' :=
  ⟨_, h.1, World.ownsRow_nil _ _ _ _, h.2⟩
theorem walk_no (k : Int) (id : Int) (wide : Bool) (sv : Value) (l : List Int) (w : World) (hs : Sl w w.heap.size (Value.int .u8) sv l) (hlen : l.length ≤ 140737488351232) (hG : asK.ErrT w) (hk : k = 26 ∨ k = 15)
    (hB : ∀ W A c, Calls Tryd.prog 17 #[.agg #[.int .u32 id, .bool wide, .slice A l.length c]] W fun e w' => e = .returned (.tuple #[.slice none 0 0, .iface 73 (.int .i64 k)]) ∧ Below W.heap.size W w')
    (hR : ∀ W A c, Calls Tryd.prog 19 #[.agg #[.int .u32 id, .bool wide, .slice A l.length c]] W (refW.RefNo W k)) :
    Calls Tryd.prog 4 #[.agg #[.int .u32 id, .bool wide, sv]] w fun e w' => e = .returned (.bool true) ∧ Below w.heap.size w w' := by
  refine walk id wide sv l w hs hlen hG [] [] (.iface 73 (.int .i64 k)) k (by simp) (by simp) ?_ ?_ ?_ ?_ (fun W hg => asK.plain_no k W (by omega) (by omega) hg)
  · intro W v hv
    obtain ⟨A, c, rfl, -, -⟩ := hv.form
    exact (hB W A c).mono fun e w' h => nil_ans h
  · intro W v hv
    obtain ⟨A, c, rfl, -, -⟩ := hv.form
    exact (refW.enc_no id wide A l.length c k W hk (fun W => hB W A c)).mono fun e w' h => nil_ans h
  · intro W v hv
    obtain ⟨A, c, rfl, -, -⟩ := hv.form
    exact (hR W A c).mono fun e w' h => nil_ans h
  · intro W v hv
    obtain ⟨A, c, rfl, -, -⟩ := hv.form
    exact (refW.renc_no id wide A l.length c k W hk (fun W => hR W A c)).mono fun e w' h => nil_ans h

theorem whole (id : Int) (wide : Bool) (sv : Value) (l : List Int) (w : World) (hs : Sl w w.heap.size (Value.int .u8) sv l) (hlen : l.length ≤ 140737488351232) (hG : asK.ErrT w) (h0 : 0 ≤ id) (h1 : id < 4294967296) (hb : ∀ x ∈ l, 0 ≤ x ∧ x < 256) :
    Calls Tryd.prog 4 #[.agg #[.int .u32 id, .bool wide, sv]] w fun e w' => e = .returned (.bool true) ∧ Below w.heap.size w w' := by
  by_cases hid : 536870911 < id ∨ (wide = false ∧ 2047 < id)
  · exact walk_no 26 id wide sv l w hs hlen hG (.inl rfl) (fun W A c => bitsW.bits_id id wide _ W hid ⟨_, _, _, rfl⟩) (fun W A c => refW.rbits_id id wide A l.length c W hid)
  · have h2 : id ≤ 536870911 := by
      rcases Int.lt_or_le 536870911 id with h | h
      · exact absurd (.inl h) hid
      · exact h
    have h3 : wide = false → id ≤ 2047 := fun hw => by
      rcases Int.lt_or_le 2047 id with h | h
      · exact absurd (.inr ⟨hw, h⟩) hid
      · exact h
    by_cases hn : 8 < l.length
    · exact walk_no 15 id wide sv l w hs hlen hG (.inr rfl) (fun W A c => bitsW.bits_size id wide A l.length c W h2 h3 hn) (fun W A c => refW.rbits_size id wide A l.length c W h2 h3 hn)
    · have hn8 : l.length ≤ 8 := by omega
      have hbl := bitsF_length id wide l
      have hbl2 : (bitsF id wide l).length ≤ 118 := by rw [hbl]; split <;> omega
      have hwl : (decK.onF (bitsF id wide l)).length ≤ 1000 := by
        have a1 := decK.onF_length (bitsF id wide l)
        have a2 : (stuffK.stuffF (bitsF id wide l)).length ≤ 2 * (bitsF id wide l).length := (stuffK.run_bd (bitsF id wide l)).2
        omega
      refine walk id wide sv l w hs hlen hG (bitsF id wide l) (decK.onF (bitsF id wide l)) .nilIface 0 (by omega) hwl ?_ ?_ ?_ ?_ (fun W hg => asK.plain_nil W)
      · exact fun W v hv => bitsW.bits_ok id wide v l W hv h0 h2 h3 hn8 hb
      · exact fun W v hv => wireW.encode_ok id wide v l W hv h0 h2 h3 hn8 hb
      · exact fun W v hv => refW.rbits_ok id wide v l W hv h0 h2 h3 hn8 hb
      · exact fun W v hv => refW.renc_ok id wide v l W hv h0 h2 h3 hn8 hb
end Go.Proofs.YthjjockimpndbaaDoor.frameBitsW
