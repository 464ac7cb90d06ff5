/- The contracts of slices.Clone stand in the shelf. -/
import Derived.Test.YtefokfbgpfcbkaaGreatShelf
